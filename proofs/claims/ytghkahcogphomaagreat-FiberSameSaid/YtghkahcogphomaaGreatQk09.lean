/- Fibers: a part of the walk. No condition. -/
import Derived.Test.YtghkahcogphomaaGreatQk08
set_option linter.all false
namespace Go.Proofs.YtghkahcogphomaaGreat
section
open Go.ChangeShapes Go.WideShapes Go.RowKit
variable{w0 w w1 w':World}{c:Sk}{A A':Ar}{top:Int}{last:Value}
def emptyF(A:Ar)(m:Nat)(f:Int):Bool:=nmF A m f 2== -1
def lowF(A:Ar)(m:Nat)(f:Int):Bool:=gtF A m f 0%8 !=1
def hasF(A:Ar)(m:Nat)(f:Int):Bool:=gtF A m f 3%8==1
theorem ZA(h:St w0 w c A top last)(f:Int)(hf:W64 f):Calls Tryz.prog 68 #[.pointer (some ⟨c.kb,0,none⟩),.int .u64 f] w fun e w'=>e=.returned (.bool (emptyF A c.m f))∧St w0 w' c A top last:=by
 go_enter Tryz.func68,Tryz.ntmps68;go_wp2_with (first|(go_at_call 66;refine(knum_c ‹_› _ _ (by first|assumption|exact St.gw ‹_› _ _|exact St.tw ‹_›|exact zG|exact zJ|exact zH _) (by first|exact I64.of (by omega)|assumption)).mono ?_;rintro e w' ⟨rfl,_⟩));go_ret;exact⟨rfl,by assumption⟩
theorem zq(h:St w0 w c A top last)(f:Int)(hf:W64 f):Calls Tryz.prog 73 #[.pointer (some ⟨c.kb,0,none⟩),.int .u64 f] w fun e w'=>e=.returned (.bool (lowF A c.m f))∧St w0 w' c A top last:=by
 go_enter Tryz.func73,Tryz.ntmps73;go_wp2_with (first|(go_at_call 52;refine(zU ‹_› _ _ (by first|assumption|exact St.gw ‹_› _ _|exact St.tw ‹_›|exact zG|exact zJ|exact zH _) (by first|exact I64.of (by omega)|assumption)).mono ?_;rintro e w' ⟨rfl,_⟩)|(go_at_call 48;refine(zx _ _ (W64.lo (by first|assumption|exact St.gw ‹_› _ _|exact St.tw ‹_›|exact zG|exact zJ|exact zH _)) (W64.hi (by first|assumption|exact St.gw ‹_› _ _|exact St.tw ‹_›|exact zG|exact zJ|exact zH _))).mono ?_;rintro e w' ⟨rfl,rfl⟩));go_ret;exact⟨rfl,by assumption⟩
theorem zP(h:St w0 w c A top last)(f:Int)(hf:W64 f):Calls Tryz.prog 51 #[.pointer (some ⟨c.kb,0,none⟩),.int .u64 f] w fun e w'=>e=.returned (.tuple #[.int .u64 (gtF A c.m f 3),.bool (hasF A c.m f)])∧St w0 w' c A top last:=by
 go_enter Tryz.func51,Tryz.ntmps51;go_wp2_with (first|(go_at_call 52;refine(zU ‹_› _ _ (by first|assumption|exact St.gw ‹_› _ _|exact St.tw ‹_›|exact zG|exact zJ|exact zH _) (by first|exact I64.of (by omega)|assumption)).mono ?_;rintro e w' ⟨rfl,_⟩)|(go_at_call 48;refine(zx _ _ (W64.lo (by first|assumption|exact St.gw ‹_› _ _|exact St.tw ‹_›|exact zG|exact zJ|exact zH _)) (W64.hi (by first|assumption|exact St.gw ‹_› _ _|exact St.tw ‹_›|exact zG|exact zJ|exact zH _))).mono ?_;rintro e w' ⟨rfl,rfl⟩));go_ret2;exact⟨rfl,by assumption⟩
def freshF(A:Ar)(m:Nat)(r:Int):Int:=if kdF A m r≠6∨szF A m r≠3 then 202 else if nmF A m r 0≠0 then 201 else 0
theorem kfresh_c(h:St w0 w c A top last)(r:Int)(hr:W64 r):Calls Tryz.prog 72 #[.pointer (some ⟨c.kb,0,none⟩),.int .u64 r] w fun e w'=>e=.returned (.int .i64 (freshF A c.m r))∧St w0 w' c A top last:=by
 have k0:=h.k0;have CV:=Lib.hid (fun w1 (h1:St w0 w1 c A top last)=>vheap_c h1);have CK:=Lib.hid (fun w1 (h1:St w0 w1 c A top last)=>okind_s h1 r hr);have CZ:=Lib.hid (fun w1 (h1:St w0 w1 c A top last)=>osize_s h1 r hr);have CN:=Lib.hid (fun w1 (h1:St w0 w1 c A top last)=>knum_c h1 r 0 hr (I64.of (by omega)));unfold freshF;generalize kdF A c.m r=kd at*;generalize szF A c.m r=sz at*;generalize nmF A c.m r 0=nm at*;by_cases q1:kd=6
 ·have q1b:(kd !=6)=false:=by simpa using q1
  by_cases q2:sz=3
  ·have q2b:(sz !=3)=false:=by simpa using q2
   rw[if_neg (by omega)];by_cases q3:nm=0
   ·have q3b:(nm !=0)=false:=by simpa using q3
    rw[if_neg (by omega)];clear q1 q2 q3;go_enter Tryz.func72,Tryz.ntmps72;go_wp2_with fail;refine(CV.out _ h).mono ?_;rintro e w' ⟨rfl,rfl⟩;go_wp2_with fail;refine(CK.out _ h).mono ?_;rintro e w1 ⟨rfl,h1⟩;have k1:=h1.k0;go_wp2_with fail;refine(CV.out _ h1).mono ?_;rintro e w' ⟨rfl,rfl⟩;go_wp2_with fail;refine(CZ.out _ h1).mono ?_;rintro e w2 ⟨rfl,h2⟩;go_wp2_with fail;refine(CN.out _ h2).mono ?_;rintro e w3 ⟨rfl,h3⟩;go_wp2;go_ret;exact⟨rfl,h3⟩
   ·have q3b:(nm !=0)=true:=by simpa using q3
    rw[if_pos q3];clear q1 q2 q3;go_enter Tryz.func72,Tryz.ntmps72;go_wp2_with fail;refine(CV.out _ h).mono ?_;rintro e w' ⟨rfl,rfl⟩;go_wp2_with fail;refine(CK.out _ h).mono ?_;rintro e w1 ⟨rfl,h1⟩;have k1:=h1.k0;go_wp2_with fail;refine(CV.out _ h1).mono ?_;rintro e w' ⟨rfl,rfl⟩;go_wp2_with fail;refine(CZ.out _ h1).mono ?_;rintro e w2 ⟨rfl,h2⟩;go_wp2_with fail;refine(CN.out _ h2).mono ?_;rintro e w3 ⟨rfl,h3⟩;go_wp2;go_ret;exact⟨rfl,h3⟩
  ·have q2b:(sz !=3)=true:=by simpa using q2
   rw[if_pos (.inr q2)];clear q1 q2;go_enter Tryz.func72,Tryz.ntmps72;go_wp2_with fail;refine(CV.out _ h).mono ?_;rintro e w' ⟨rfl,rfl⟩;go_wp2_with fail;refine(CK.out _ h).mono ?_;rintro e w1 ⟨rfl,h1⟩;have k1:=h1.k0;go_wp2_with fail;refine(CV.out _ h1).mono ?_;rintro e w' ⟨rfl,rfl⟩;go_wp2_with fail;refine(CZ.out _ h1).mono ?_;rintro e w2 ⟨rfl,h2⟩;go_wp2;go_ret;exact⟨rfl,h2⟩
 ·have q1b:(kd !=6)=true:=by simpa using q1
  rw[if_pos (.inl q1)];clear q1;go_enter Tryz.func72,Tryz.ntmps72;go_wp2_with fail;refine(CV.out _ h).mono ?_;rintro e w' ⟨rfl,rfl⟩;go_wp2_with fail;refine(CK.out _ h).mono ?_;rintro e w1 ⟨rfl,h1⟩;have k1:=h1.k0;go_wp2;go_ret;exact⟨rfl,h1⟩
def leftF(A:Ar)(m:Nat)(top:Int):Int:=if hasF A m top=true then gtF A m (gtF A m top 3) 1 else 45
theorem kleave_no(h:St w0 w c A top last)(hb:emptyF A c.m top=false∨lowF A c.m top=true):Calls Tryz.prog 35 #[.pointer (some ⟨c.kb,0,none⟩)] w fun e w'=>e=.returned (.tuple #[.int .u64 45,.bool false])∧St w0 w' c A top last:=by
 cases h1:emptyF A c.m top with
 |false=>
  clear hb;go_enter Tryz.func35,Tryz.ntmps35;go_wp2_with (first|(go_at_call 46;refine(zh ‹_›).mono ?_;rintro e w' ⟨rfl,rfl⟩)|(go_at_call 68;refine(ZA ‹_› _ (by first|assumption|exact St.gw ‹_› _ _|exact St.tw ‹_›|exact zG|exact zJ|exact zH _)).mono ?_;rintro e w' ⟨rfl,_⟩)|(go_at_call 73;refine(zq ‹_› _ (by first|assumption|exact St.gw ‹_› _ _|exact St.tw ‹_›|exact zG|exact zJ|exact zH _)).mono ?_;rintro e w' ⟨rfl,_⟩)|(go_at_call 49;refine(zK _).mono ?_;rintro e w' ⟨rfl,rfl⟩)|(go_at_call 51;refine(zP ‹_› _ (by first|assumption|exact St.gw ‹_› _ _|exact St.tw ‹_›|exact zG|exact zJ|exact zH _)).mono ?_;rintro e w' ⟨rfl,_⟩)|(go_at_call 52;refine(zU ‹_› _ _ (by first|assumption|exact St.gw ‹_› _ _|exact St.tw ‹_›|exact zG|exact zJ|exact zH _) (by first|exact I64.of (by omega)|assumption)).mono ?_;rintro e w' ⟨rfl,_⟩)|(go_at_call 65;refine(kturn_c ‹_› _ (by first|assumption|exact St.gw ‹_› _ _|exact St.tw ‹_›|exact zG|exact zJ|exact zH _)).mono ?_;rintro e w' ⟨rfl,_⟩));go_ret2;exact⟨rfl,by assumption⟩
 |true=>
  have h2:lowF A c.m top=true:=by rcases hb with h|h;rw[h1]at h;cases h;exact h
  clear hb;go_enter Tryz.func35,Tryz.ntmps35;go_wp2_with (first|(go_at_call 46;refine(zh ‹_›).mono ?_;rintro e w' ⟨rfl,rfl⟩)|(go_at_call 68;refine(ZA ‹_› _ (by first|assumption|exact St.gw ‹_› _ _|exact St.tw ‹_›|exact zG|exact zJ|exact zH _)).mono ?_;rintro e w' ⟨rfl,_⟩)|(go_at_call 73;refine(zq ‹_› _ (by first|assumption|exact St.gw ‹_› _ _|exact St.tw ‹_›|exact zG|exact zJ|exact zH _)).mono ?_;rintro e w' ⟨rfl,_⟩)|(go_at_call 49;refine(zK _).mono ?_;rintro e w' ⟨rfl,rfl⟩)|(go_at_call 51;refine(zP ‹_› _ (by first|assumption|exact St.gw ‹_› _ _|exact St.tw ‹_›|exact zG|exact zJ|exact zH _)).mono ?_;rintro e w' ⟨rfl,_⟩)|(go_at_call 52;refine(zU ‹_› _ _ (by first|assumption|exact St.gw ‹_› _ _|exact St.tw ‹_›|exact zG|exact zJ|exact zH _) (by first|exact I64.of (by omega)|assumption)).mono ?_;rintro e w' ⟨rfl,_⟩)|(go_at_call 65;refine(kturn_c ‹_› _ (by first|assumption|exact St.gw ‹_› _ _|exact St.tw ‹_›|exact zG|exact zJ|exact zH _)).mono ?_;rintro e w' ⟨rfl,_⟩));go_ret2;exact⟨rfl,by assumption⟩
theorem kleave_yes(h:St w0 w c A top last)(he:emptyF A c.m top=true)(hl:lowF A c.m top=false):Calls Tryz.prog 35 #[.pointer (some ⟨c.kb,0,none⟩)] w fun e w'=>e=.returned (.tuple #[.int .u64 (leftF A c.m top),.bool true])∧St w0 w' c A (gtF A c.m top 0) (.pointer none):=by
 unfold leftF;cases hh:hasF A c.m top with
 |false=>
  rw[if_neg Bool.false_ne_true];go_enter Tryz.func35,Tryz.ntmps35;go_wp2_with (first|(go_at_call 46;refine(zh ‹_›).mono ?_;rintro e w' ⟨rfl,rfl⟩)|(go_at_call 68;refine(ZA ‹_› _ (by first|assumption|exact St.gw ‹_› _ _|exact St.tw ‹_›|exact zG|exact zJ|exact zH _)).mono ?_;rintro e w' ⟨rfl,_⟩)|(go_at_call 73;refine(zq ‹_› _ (by first|assumption|exact St.gw ‹_› _ _|exact St.tw ‹_›|exact zG|exact zJ|exact zH _)).mono ?_;rintro e w' ⟨rfl,_⟩)|(go_at_call 49;refine(zK _).mono ?_;rintro e w' ⟨rfl,rfl⟩)|(go_at_call 51;refine(zP ‹_› _ (by first|assumption|exact St.gw ‹_› _ _|exact St.tw ‹_›|exact zG|exact zJ|exact zH _)).mono ?_;rintro e w' ⟨rfl,_⟩)|(go_at_call 52;refine(zU ‹_› _ _ (by first|assumption|exact St.gw ‹_› _ _|exact St.tw ‹_›|exact zG|exact zJ|exact zH _) (by first|exact I64.of (by omega)|assumption)).mono ?_;rintro e w' ⟨rfl,_⟩)|(go_at_call 65;refine(kturn_c ‹_› _ (by first|assumption|exact St.gw ‹_› _ _|exact St.tw ‹_›|exact zG|exact zJ|exact zH _)).mono ?_;rintro e w' ⟨rfl,_⟩));go_ret2;exact⟨rfl,by assumption⟩
 |true=>
  rw[if_pos rfl];go_enter Tryz.func35,Tryz.ntmps35;go_wp2_with (first|(go_at_call 46;refine(zh ‹_›).mono ?_;rintro e w' ⟨rfl,rfl⟩)|(go_at_call 68;refine(ZA ‹_› _ (by first|assumption|exact St.gw ‹_› _ _|exact St.tw ‹_›|exact zG|exact zJ|exact zH _)).mono ?_;rintro e w' ⟨rfl,_⟩)|(go_at_call 73;refine(zq ‹_› _ (by first|assumption|exact St.gw ‹_› _ _|exact St.tw ‹_›|exact zG|exact zJ|exact zH _)).mono ?_;rintro e w' ⟨rfl,_⟩)|(go_at_call 49;refine(zK _).mono ?_;rintro e w' ⟨rfl,rfl⟩)|(go_at_call 51;refine(zP ‹_› _ (by first|assumption|exact St.gw ‹_› _ _|exact St.tw ‹_›|exact zG|exact zJ|exact zH _)).mono ?_;rintro e w' ⟨rfl,_⟩)|(go_at_call 52;refine(zU ‹_› _ _ (by first|assumption|exact St.gw ‹_› _ _|exact St.tw ‹_›|exact zG|exact zJ|exact zH _) (by first|exact I64.of (by omega)|assumption)).mono ?_;rintro e w' ⟨rfl,_⟩)|(go_at_call 65;refine(kturn_c ‹_› _ (by first|assumption|exact St.gw ‹_› _ _|exact St.tw ‹_›|exact zG|exact zJ|exact zH _)).mono ?_;rintro e w' ⟨rfl,_⟩));go_ret2;exact⟨rfl,by assumption⟩
def ontoF(A:Ar)(m:Nat)(top:Int):Int:=if hasF A m top=false∧emptyF A m top=true∧lowF A m top=false then gtF A m top 0 else top
def resF(A:Ar)(m:Nat)(top r:Int):Ar:=stF (stF (stF (stF A m (gtF A m r 2) 0 (ontoF A m top)) m r 0 (smW 1)) m r 1 45) m r 2 45
theorem kresume_no(h:St w0 w c A top last)(r:Int)(hr:W64 r)(hf:freshF A c.m r≠0):Calls Tryz.prog 18 #[.pointer (some ⟨c.kb,0,none⟩),.int .u64 r] w fun e w'=>e=.returned (.int .i64 (freshF A c.m r))∧St w0 w' c A top last:=by
 have CF:=Lib.hid (kfresh_c h r hr);have hf2:(freshF A c.m r !=0)=true:=by simpa using hf
 clear hf;generalize freshF A c.m r=z at*;go_enter Tryz.func18,Tryz.ntmps18;go_wp2_with (go_at_call 72;refine CF.out.mono ?_;rintro e w' ⟨rfl,_⟩);go_ret;exact⟨rfl,by assumption⟩
theorem kresume_yes(h:St w0 w c A top last)(r:Int)(hr:W64 r)(hf:freshF A c.m r=0):Calls Tryz.prog 18 #[.pointer (some ⟨c.kb,0,none⟩),.int .u64 r] w fun e w'=>e=.returned (.int .i64 0)∧St w0 w' c (resF A c.m top r) (gtF A c.m r 1) (.pointer none):=by
 have CF:=Lib.hid (kfresh_c h r hr);rw[hf]at CF;clear hf;unfold resF ontoF;cases hh:hasF A c.m top with
 |true=>
  rw[if_neg (by simp)];go_enter Tryz.func18,Tryz.ntmps18;go_wp2_with (first|(go_at_call 72;refine CF.out.mono ?_;rintro e w' ⟨rfl,_⟩)|(first|(go_at_call 46;refine(zh ‹_›).mono ?_;rintro e w' ⟨rfl,rfl⟩)|(go_at_call 68;refine(ZA ‹_› _ (by first|assumption|exact St.gw ‹_› _ _|exact St.tw ‹_›|exact zG|exact zJ|exact zH _)).mono ?_;rintro e w' ⟨rfl,_⟩)|(go_at_call 73;refine(zq ‹_› _ (by first|assumption|exact St.gw ‹_› _ _|exact St.tw ‹_›|exact zG|exact zJ|exact zH _)).mono ?_;rintro e w' ⟨rfl,_⟩)|(go_at_call 49;refine(zK _).mono ?_;rintro e w' ⟨rfl,rfl⟩)|(go_at_call 51;refine(zP ‹_› _ (by first|assumption|exact St.gw ‹_› _ _|exact St.tw ‹_›|exact zG|exact zJ|exact zH _)).mono ?_;rintro e w' ⟨rfl,_⟩)|(go_at_call 52;refine(zU ‹_› _ _ (by first|assumption|exact St.gw ‹_› _ _|exact St.tw ‹_›|exact zG|exact zJ|exact zH _) (by first|exact I64.of (by omega)|assumption)).mono ?_;rintro e w' ⟨rfl,_⟩)|(go_at_call 65;refine(kturn_c ‹_› _ (by first|assumption|exact St.gw ‹_› _ _|exact St.tw ‹_›|exact zG|exact zJ|exact zH _)).mono ?_;rintro e w' ⟨rfl,_⟩)|(go_at_call 67;refine(zv ‹_› _ _ _ (by first|assumption|exact St.gw ‹_› _ _|exact St.tw ‹_›|exact zG|exact zJ|exact zH _) (by first|exact I64.of (by omega)|assumption) (by first|assumption|exact St.gw ‹_› _ _|exact St.tw ‹_›|exact zG|exact zJ|exact zH _)).mono ?_;rintro e w' ⟨rfl,_⟩)|(go_at_call 62;refine(zb _ _ (by omega) (by omega)).mono ?_;rintro e w' ⟨rfl,rfl⟩)));go_ret;exact⟨rfl,by assumption⟩
 |false=>
  cases he:emptyF A c.m top with
  |false=>
   rw[if_neg (by simp)];go_enter Tryz.func18,Tryz.ntmps18;go_wp2_with (first|(go_at_call 72;refine CF.out.mono ?_;rintro e w' ⟨rfl,_⟩)|(first|(go_at_call 46;refine(zh ‹_›).mono ?_;rintro e w' ⟨rfl,rfl⟩)|(go_at_call 68;refine(ZA ‹_› _ (by first|assumption|exact St.gw ‹_› _ _|exact St.tw ‹_›|exact zG|exact zJ|exact zH _)).mono ?_;rintro e w' ⟨rfl,_⟩)|(go_at_call 73;refine(zq ‹_› _ (by first|assumption|exact St.gw ‹_› _ _|exact St.tw ‹_›|exact zG|exact zJ|exact zH _)).mono ?_;rintro e w' ⟨rfl,_⟩)|(go_at_call 49;refine(zK _).mono ?_;rintro e w' ⟨rfl,rfl⟩)|(go_at_call 51;refine(zP ‹_› _ (by first|assumption|exact St.gw ‹_› _ _|exact St.tw ‹_›|exact zG|exact zJ|exact zH _)).mono ?_;rintro e w' ⟨rfl,_⟩)|(go_at_call 52;refine(zU ‹_› _ _ (by first|assumption|exact St.gw ‹_› _ _|exact St.tw ‹_›|exact zG|exact zJ|exact zH _) (by first|exact I64.of (by omega)|assumption)).mono ?_;rintro e w' ⟨rfl,_⟩)|(go_at_call 65;refine(kturn_c ‹_› _ (by first|assumption|exact St.gw ‹_› _ _|exact St.tw ‹_›|exact zG|exact zJ|exact zH _)).mono ?_;rintro e w' ⟨rfl,_⟩)|(go_at_call 67;refine(zv ‹_› _ _ _ (by first|assumption|exact St.gw ‹_› _ _|exact St.tw ‹_›|exact zG|exact zJ|exact zH _) (by first|exact I64.of (by omega)|assumption) (by first|assumption|exact St.gw ‹_› _ _|exact St.tw ‹_›|exact zG|exact zJ|exact zH _)).mono ?_;rintro e w' ⟨rfl,_⟩)|(go_at_call 62;refine(zb _ _ (by omega) (by omega)).mono ?_;rintro e w' ⟨rfl,rfl⟩)));go_ret;exact⟨rfl,by assumption⟩
  |true=>
   cases hl:lowF A c.m top with
   |true=>
    rw[if_neg (by simp)];go_enter Tryz.func18,Tryz.ntmps18;go_wp2_with (first|(go_at_call 72;refine CF.out.mono ?_;rintro e w' ⟨rfl,_⟩)|(first|(go_at_call 46;refine(zh ‹_›).mono ?_;rintro e w' ⟨rfl,rfl⟩)|(go_at_call 68;refine(ZA ‹_› _ (by first|assumption|exact St.gw ‹_› _ _|exact St.tw ‹_›|exact zG|exact zJ|exact zH _)).mono ?_;rintro e w' ⟨rfl,_⟩)|(go_at_call 73;refine(zq ‹_› _ (by first|assumption|exact St.gw ‹_› _ _|exact St.tw ‹_›|exact zG|exact zJ|exact zH _)).mono ?_;rintro e w' ⟨rfl,_⟩)|(go_at_call 49;refine(zK _).mono ?_;rintro e w' ⟨rfl,rfl⟩)|(go_at_call 51;refine(zP ‹_› _ (by first|assumption|exact St.gw ‹_› _ _|exact St.tw ‹_›|exact zG|exact zJ|exact zH _)).mono ?_;rintro e w' ⟨rfl,_⟩)|(go_at_call 52;refine(zU ‹_› _ _ (by first|assumption|exact St.gw ‹_› _ _|exact St.tw ‹_›|exact zG|exact zJ|exact zH _) (by first|exact I64.of (by omega)|assumption)).mono ?_;rintro e w' ⟨rfl,_⟩)|(go_at_call 65;refine(kturn_c ‹_› _ (by first|assumption|exact St.gw ‹_› _ _|exact St.tw ‹_›|exact zG|exact zJ|exact zH _)).mono ?_;rintro e w' ⟨rfl,_⟩)|(go_at_call 67;refine(zv ‹_› _ _ _ (by first|assumption|exact St.gw ‹_› _ _|exact St.tw ‹_›|exact zG|exact zJ|exact zH _) (by first|exact I64.of (by omega)|assumption) (by first|assumption|exact St.gw ‹_› _ _|exact St.tw ‹_›|exact zG|exact zJ|exact zH _)).mono ?_;rintro e w' ⟨rfl,_⟩)|(go_at_call 62;refine(zb _ _ (by omega) (by omega)).mono ?_;rintro e w' ⟨rfl,rfl⟩)));go_ret;exact⟨rfl,by assumption⟩
   |false=>
    rw[if_pos (by simp)];go_enter Tryz.func18,Tryz.ntmps18;go_wp2_with (first|(go_at_call 72;refine CF.out.mono ?_;rintro e w' ⟨rfl,_⟩)|(first|(go_at_call 46;refine(zh ‹_›).mono ?_;rintro e w' ⟨rfl,rfl⟩)|(go_at_call 68;refine(ZA ‹_› _ (by first|assumption|exact St.gw ‹_› _ _|exact St.tw ‹_›|exact zG|exact zJ|exact zH _)).mono ?_;rintro e w' ⟨rfl,_⟩)|(go_at_call 73;refine(zq ‹_› _ (by first|assumption|exact St.gw ‹_› _ _|exact St.tw ‹_›|exact zG|exact zJ|exact zH _)).mono ?_;rintro e w' ⟨rfl,_⟩)|(go_at_call 49;refine(zK _).mono ?_;rintro e w' ⟨rfl,rfl⟩)|(go_at_call 51;refine(zP ‹_› _ (by first|assumption|exact St.gw ‹_› _ _|exact St.tw ‹_›|exact zG|exact zJ|exact zH _)).mono ?_;rintro e w' ⟨rfl,_⟩)|(go_at_call 52;refine(zU ‹_› _ _ (by first|assumption|exact St.gw ‹_› _ _|exact St.tw ‹_›|exact zG|exact zJ|exact zH _) (by first|exact I64.of (by omega)|assumption)).mono ?_;rintro e w' ⟨rfl,_⟩)|(go_at_call 65;refine(kturn_c ‹_› _ (by first|assumption|exact St.gw ‹_› _ _|exact St.tw ‹_›|exact zG|exact zJ|exact zH _)).mono ?_;rintro e w' ⟨rfl,_⟩)|(go_at_call 67;refine(zv ‹_› _ _ _ (by first|assumption|exact St.gw ‹_› _ _|exact St.tw ‹_›|exact zG|exact zJ|exact zH _) (by first|exact I64.of (by omega)|assumption) (by first|assumption|exact St.gw ‹_› _ _|exact St.tw ‹_›|exact zG|exact zJ|exact zH _)).mono ?_;rintro e w' ⟨rfl,_⟩)|(go_at_call 62;refine(zb _ _ (by omega) (by omega)).mono ?_;rintro e w' ⟨rfl,rfl⟩)));go_ret;exact⟨rfl,by assumption⟩
def dnF(A:Ar)(m:Nat):Nat→Int→Option Int
 |0,f=>some f
 |n+1,f=>if lowF A m f=true then none else dnF A m n (gtF A m f 0)
def dnVal(A:Ar)(m:Nat):Option Int→Value
 |none=> .tuple #[.int .u64 0,.bool false]
 |some f=> .tuple #[.int .u64 f,.bool (!lowF A m f)]
theorem kdown_c(h:St w0 w c A top last)(up:Nat)(hup:up≤1000000000):Calls Tryz.prog 50 #[.pointer (some ⟨c.kb,0,none⟩),.int .i64 (up:Int)] w fun e w'=>e=.returned (dnVal A c.m (dnF A c.m up top))∧St w0 w' c A top last:=by
 have CT:=Lib.hid (zh h);have ht:=h.tw;have h0:Hid (St w0 w c A top last):=Lib.hid h;obtain⟨D,hD⟩: ∃D,D=dnF A c.m up top:=⟨_,rfl⟩;rw[←hD];have HD:=Lib.hid hD;clear hD h;go_enter Tryz.func50,Tryz.ntmps50;go_wp2_with fail;refine CT.out.mono ?_;rintro e w' ⟨rfl,rfl⟩;clear CT;go_wp2;go_loopw [6,10] (fun f y wr=> ∃(k:Nat) (g:Int),k≤up∧y=.int .i64 (k:Int)∧f=.int .u64 g∧Hid (W64 g)∧Hid (D=dnF A c.m (up-k) g)∧Hid (St w0 wr c A top last)) (fun _ y _=>up-(intOf y).toNat)
 case atStart=>exact⟨0,top,Nat.zero_le _,rfl,rfl,Lib.hid ht,HD,h0⟩
 case round=>
  obtain⟨k,g,hk,rfl,rfl,hg,hE,hS⟩:=hrel;clear h0 HD ht;have CL:=Lib.hid (zq hS.out g hg.out);by_cases hlt:k<up
  ·have E:Hid (D=if lowF A c.m g=true then none else dnF A c.m (up-(k+1)) (gtF A c.m g 0)):=Lib.hid (by rw[hE.out,show up-k=(up-(k+1))+1 by omega];rfl);cases hl:lowF A c.m g with
   |true=>
    rw[hl]at CL;have E2:Hid (D=none):=Lib.hid (by rw[E.out,hl,if_pos rfl]);clear hl E hE;go_wp2_with fail;refine CL.out.mono ?_;rintro e w1 ⟨rfl,h1⟩;go_wp2;go_ret2;exact⟨by rw[E2.out];rfl,h1⟩
   |false=>
    rw[hl]at CL;have E2:Hid (D=dnF A c.m (up-(k+1)) (gtF A c.m g 0)):=Lib.hid (by rw[E.out,hl,if_neg Bool.false_ne_true]);have CG:=Lib.hid (fun w1 (h1:St w0 w1 c A top last)=>zU h1 g 0 hg.out (I64.of (by omega)));have G2:=Lib.hid (hS.out.gw g 0);clear hl E hE;go_wp2_with fail;refine CL.out.mono ?_;rintro e w1 ⟨rfl,h1⟩;go_wp2_with fail;refine(CG.out _ h1).mono ?_;rintro e w2 ⟨rfl,h2⟩;have h2:=Lib.hid h2;clear h1;go_wp2;go_roundw
    case rel=>exact⟨k+1,_,by omega,by go_num,rfl,G2,E2,h2⟩
    case measure=>simp[intOf];omega
  ·have hku:k=up:=by omega
   have E2:Hid (D=some g):=Lib.hid (by rw[hE.out,hku,Nat.sub_self];rfl);clear hE hku;go_wp2_with fail;refine CL.out.mono ?_;rintro e w1 ⟨rfl,h1⟩;go_wp2;go_ret2;exact⟨by rw[E2.out];rfl,h1⟩
def chF(A:Ar)(m:Nat):Nat→Int→Option Nat
 |0,_=>none
 |n+1,f=>if f%8=1 then(chF A m n (gtF A m f 0)).map (· +1)else some 0
theorem kfibers_c(h:St w0 w c A top last)(fuel k:Nat)(hc:chF A c.m fuel top=some k)(hk:k≤1000000):Calls Tryz.prog 10 #[.pointer (some ⟨c.kb,0,none⟩)] w fun e w'=>e=.returned (.int .i64 (k:Int))∧St w0 w' c A top last:=by
 have CT:=Lib.hid (zh h);have ht:=Lib.hid h.tw;have h0:Hid (St w0 w c A top last):=Lib.hid h;have HC:=Lib.hid hc;clear h hc;go_enter Tryz.func10,Tryz.ntmps10;go_wp2_with fail;refine CT.out.mono ?_;rintro e w' ⟨rfl,rfl⟩;clear CT;go_wp2_with fail
 go_loopg [3,4] fuel (fun j s3 s4 wr=> ∃(f:Int) (n r:Nat),s3=.int .i64 (n:Int)∧s4=.int .u64 f∧Hid (W64 f)∧Hid (chF A c.m j f=some r∧n+r=k)∧Hid (St w0 wr c A top last))
 case atStart=>exact⟨top,0,k,rfl,rfl,ht,Lib.hid ⟨HC.out,by omega⟩,h0⟩
 case round=>
  obtain⟨f,n,r,rfl,rfl,hf,hE,hS⟩:=hrel;clear HC h0 ht;have CK:=Lib.hid (zx f wr hf.out.1 hf.out.2)
  obtain⟨j,hj⟩: ∃j,gk=j+1:=by
   cases gk with
   |zero=>have:=hE.out.1;simp[chF]at this
   |succ j=>exact⟨j,rfl⟩
  have E2:=hE.out.1;rw[hj]at E2;have HJ:=Lib.hid hj;clear hj;unfold chF at E2;by_cases hp:f%8=1
  ·have hpb:(f%8==1)=true:=by simpa using hp
   rw[if_pos hp]at E2;cases hx:chF A c.m j (gtF A c.m f 0)with
   |none=>rw[hx]at E2;cases E2
   |some r2=>
    rw[hx]at E2;simp at E2;have E3:Hid (chF A c.m j (gtF A c.m f 0)=some r2∧(n+1)+r2=k):=Lib.hid ⟨hx,by have:=hE.out.2;omega⟩;have hn:n≤1000000:=by have:=hE.out.2;omega
    have CG:=Lib.hid (zU hS.out f 0 hf.out (I64.of (by omega)));have G2:=Lib.hid (hS.out.gw f 0);clear E2 hx hp hE;go_wp2_with fail;refine CK.out.mono ?_;rintro e w' ⟨rfl,rfl⟩;go_wp2_with fail;refine CG.out.mono ?_;rintro e w2 ⟨rfl,h2⟩;have h2:=Lib.hid h2;go_wp2_with fail
    go_roundg j
    case measure=>have:=HJ.out;omega
    case rel=>exact⟨_,n+1,r2,by go_num,rfl,G2,E3,h2⟩
  ·have hpb:(f%8==1)=false:=by simpa using hp
   rw[if_neg hp]at E2;have hnk:Hid (n=k):=Lib.hid (by have:=hE.out.2;simp at E2;omega);clear E2 hp hE;go_wp2_with fail;refine CK.out.mono ?_;rintro e w' ⟨rfl,rfl⟩;go_wp2;go_ret;exact⟨by rw[hnk.out];rfl,hS.out⟩
def segStep(A1:Ar)(m:Nat)(seg prev:Int):Ar×Option Int:=
 match(segF A1 m prev (max (rmF A1 m seg) 1)).2 with
 |none=>((segF A1 m prev (max (rmF A1 m seg) 1)).1,none)
 |some to=>(stF (growN (segF A1 m prev (max (rmF A1 m seg) 1)).1 m to seg (nmF A1 m seg 1).toNat) m to 1 (smW (nmF A1 m seg 1)),some to)
def segOn(r:Ar×Option Int)(m:Nat)(seg:Int):Ar×Option Int:=
 match r.2 with
 |none=>(r.1,none)
 |some prev=>segStep r.1 m seg prev
def ZB(A:Ar)(m:Nat)(n:Nat)(seg:Int):Ar×Option Int:=
 match n with
 |0=>(A,some 45)
 |n+1=>if seg%8=1 then segOn (ZB A m n (gtF A m seg 0)) m seg else(A,some 45)
theorem segsF_yes{m n:Nat}{seg:Int}(h:seg%8=1):ZB A m (n+1) seg=segOn (ZB A m n (gtF A m seg 0)) m seg:=if_pos h
theorem segsF_no{m n:Nat}{seg:Int}(h:seg%8≠1):ZB A m (n+1) seg=(A,some 45):=if_neg h
def SgOk(A:Ar)(m:Nat):Nat→Int→Prop
 |0,seg=>seg%8≠1
 |n+1,seg=>seg%8≠1∨(SgOk A m n (gtF A m seg 0)∧0≤nmF (ZB A m n (gtF A m seg 0)).1 m seg 1∧nmF (ZB A m n (gtF A m seg 0)).1 m seg 1≤1000∧rmF (ZB A m n (gtF A m seg 0)).1 m seg≤1000∧∀x,(ZB A m n (gtF A m seg 0)).2=some x→W64 x)
theorem ksegs_end(h:St w0 w c A top last)(seg:Int)(hs:W64 seg)(hk:seg%8≠1):Calls Tryz.prog 105 #[.pointer (some ⟨c.kb,0,none⟩),.int .u64 seg] w fun e w'=>e=.returned (.tuple #[.int .u64 45,.bool true])∧St w0 w' c A top last:=by
 have hkb:(seg%8 !=1)=true:=by simpa using hk
 clear hk;go_enter Tryz.func105,Tryz.ntmps105;go_wp2_with (first|(go_at_call 48;refine(zx _ _ (W64.lo (by first|assumption|exact St.gw ‹_› _ _|exact St.tw ‹_›|exact zG|exact zJ|exact zH _)) (W64.hi (by first|assumption|exact St.gw ‹_› _ _|exact St.tw ‹_›|exact zG|exact zJ|exact zH _))).mono ?_;rintro e w' ⟨rfl,rfl⟩)|(go_at_call 49;refine(zK _).mono ?_;rintro e w' ⟨rfl,rfl⟩));go_ret2;exact⟨rfl,by assumption⟩
set_option maxHeartbeats 4000000 in
theorem ksegs_c(n:Nat): ∀(w:World) (seg:Int),St w0 w c A top last→W64 seg→SgOk A c.m n seg→Calls Tryz.prog 105 #[.pointer (some ⟨c.kb,0,none⟩),.int .u64 seg] w fun e w'=>e=.returned (zM (ZB A c.m n seg).2)∧St w0 w' c (ZB A c.m n seg).1 top last:=by
 induction n with
 |zero=>
  intro w seg h hs hk;exact ksegs_end h seg hs hk
 |succ n ih=>
  intro w seg h hs hok;by_cases hp:seg%8=1
  ·unfold SgOk at hok;rcases hok with hok|⟨ho,u0,u1,r1,hW⟩
   ·exact absurd hp hok
   have hpb:(seg%8 !=1)=false:=by simpa using hp
   have IH:=Lib.hid (fun w1 (h1:St w0 w1 c A top last)=>ih w1 (gtF A c.m seg 0) h1 (h.gw _ _) ho);have CG:=Lib.hid (zU h seg 0 hs (I64.of (by omega)));have CK:=Lib.hid (zx seg w hs.1 hs.2);have HS:=Lib.hid hs;rw[segsF_yes hp];unfold segOn;clear ih ho hp h;cases ho:(ZB A c.m n (gtF A c.m seg 0)).2 with
   |none=>
    rw[ho]at IH;simp only[zM]at IH⊢;clear ho u0 u1 r1 hW;go_enter Tryz.func105,Tryz.ntmps105;go_wp2_with fail;refine CK.out.mono ?_;rintro e w' ⟨rfl,rfl⟩;go_wp2_with fail;refine CG.out.mono ?_;rintro e w1 ⟨rfl,h1⟩;have h1:=Lib.hid h1;go_wp2_with fail;refine(IH.out _ h1.out).mono ?_;rintro e w2 ⟨rfl,h2⟩;have h2:=Lib.hid h2;clear CK CG IH h1;go_wp2;go_ret2;exact⟨rfl,h2.out⟩
   |some prev=>
    rw[ho]at IH;simp only[zM]at IH;simp only;have hpv:=Lib.hid (hW prev ho);clear ho hW;generalize (ZB A c.m n (gtF A c.m seg 0)).1=A1 at*;unfold segStep;have CU:Hid (∀w1,St w0 w1 c A1 top last→_):=Lib.hid (fun w1 h1=>kused_c h1 seg HS.out);have CR:Hid (∀w1,St w0 w1 c A1 top last→_):=Lib.hid (fun w1 h1=>kroom_c h1 seg HS.out);have rm0:0≤rmF A1 c.m seg:=by unfold rmF;omega
    obtain⟨u,hu⟩: ∃u:Nat,nmF A1 c.m seg 1=(u:Int):=⟨(nmF A1 c.m seg 1).toNat,by omega⟩;rw[hu]at CU u0 u1⊢;rw[Int.toNat_natCast];have hu1:u≤1000:=by omega
    obtain⟨sz,hsz⟩: ∃sz,sz=max (rmF A1 c.m seg) 1:=⟨_,rfl⟩;rw[←hsz];have CS:Hid (∀w1,St w0 w1 c A1 top last→_):=Lib.hid (fun w1 h1=>ksegment_c h1 prev sz hpv.out (by omega) (by omega));have SW:Hid (∀w1,St w0 w1 c A1 top last→∀x,(segF A1 c.m prev sz).2=some x→W64 x):=Lib.hid (fun w1 h1 x hx=>segF_w h1.a.wd hx);generalize rmF A1 c.m seg=r at*;have q:(r<1∧sz=1)∨(¬r<1∧sz=r):=by omega
    clear hu hsz;cases ho:(segF A1 c.m prev sz).2 with
    |none=>
     rw[ho]at CS;simp only[zM]at CS⊢;clear ho SW;generalize (segF A1 c.m prev sz).1=A2 at*;rcases q with⟨q1,rfl⟩|⟨q1,rfl⟩
     all_goals
      go_enter Tryz.func105,Tryz.ntmps105;go_wp2_with fail;refine CK.out.mono ?_;rintro e w' ⟨rfl,rfl⟩;go_wp2_with fail;refine CG.out.mono ?_;rintro e w1 ⟨rfl,h1⟩;have h1:=Lib.hid h1;go_wp2_with fail;refine(IH.out _ h1.out).mono ?_;rintro e w2 ⟨rfl,h2⟩;have h2:=Lib.hid h2;clear CK CG IH h1;go_wp2_with fail;refine(CU.out _ h2.out).mono ?_;rintro e w3 ⟨rfl,h3⟩;have h3:=Lib.hid h3;go_wp2_with fail;refine(CR.out _ h3.out).mono ?_;rintro e w4 ⟨rfl,h4⟩;have h4:=Lib.hid h4;go_wp2_with fail;refine(CS.out _ h4.out).mono ?_;rintro e w5 ⟨rfl,h5⟩;go_wp2;go_ret2;exact⟨rfl,h5⟩
    |some to=>
     have HT:Hid (∀w1,St w0 w1 c A1 top last→W64 to):=Lib.hid (fun w1 h1=>SW.out w1 h1 to ho);rw[ho]at CS;simp only[zM]at CS⊢;clear ho SW;generalize (segF A1 c.m prev sz).1=A2 at*;rcases q with⟨q1,rfl⟩|⟨q1,rfl⟩
     all_goals
      go_enter Tryz.func105,Tryz.ntmps105;go_wp2_with fail;refine CK.out.mono ?_;rintro e w' ⟨rfl,rfl⟩;go_wp2_with fail;refine CG.out.mono ?_;rintro e w1 ⟨rfl,h1⟩;have h1:=Lib.hid h1;go_wp2_with fail;refine(IH.out _ h1.out).mono ?_;rintro e w2 ⟨rfl,h2⟩;have h2:=Lib.hid h2;clear CK CG IH h1;go_wp2_with fail;refine(CU.out _ h2.out).mono ?_;rintro e w3 ⟨rfl,h3⟩;have h3:=Lib.hid h3;go_wp2_with fail;refine(CR.out _ h3.out).mono ?_;rintro e w4 ⟨rfl,h4⟩;have h4:=Lib.hid h4;have hto:=Lib.hid (HT.out _ h4.out);go_wp2_with fail;refine(CS.out _ h4.out).mono ?_;rintro e w5 ⟨rfl,h5⟩;have h5:Hid (St w0 w5 c (growN A2 c.m to seg 0) top last):=Lib.hid h5;clear CU CR CS HT h2 h3 h4;go_wp2_with fail;go_loopw [41] (fun y wr=> ∃k:Nat,k≤u∧y=.int .i64 (k:Int)∧Hid (St w0 wr c (growN A2 c.m to seg k) top last)) (fun y _=>u-(intOf y).toNat)
      case atStart=>exact⟨0,Nat.zero_le _,rfl,h5⟩
      case round=>
       obtain⟨k,hk,rfl,hS⟩:=hrel;clear h5;by_cases hlt:k<u
       ·have CG:=Lib.hid (zU hS.out seg (2+(k:Int)) HS.out (I64.of (by omega)));have CT:Hid (∀w1,St w0 w1 c (growN A2 c.m to seg k) top last→_):=Lib.hid (fun w1 h1=>zv h1 to (2+(k:Int)) (gtF (growN A2 c.m to seg k) c.m seg (2+(k:Int))) hto.out (I64.of (by omega)) (h1.gw _ _));have FIN:Hid (∀w2,St w0 w2 c (stF (growN A2 c.m to seg k) c.m to (2+(k:Int)) (gtF (growN A2 c.m to seg k) c.m seg (2+(k:Int)))) top last→St w0 w2 c (growN A2 c.m to seg (k+1)) top last):=Lib.hid (fun w2 h=>h);go_wp2_with fail;refine CG.out.mono ?_;rintro e w6 ⟨rfl,h6⟩;go_wp2_with fail;refine(CT.out _ h6).mono ?_;rintro e w7 ⟨rfl,h7⟩;have h7:=Lib.hid h7;go_wp2;go_roundw
        case rel=>exact⟨k+1,by omega,by go_num,Lib.hid (FIN.out _ h7.out)⟩
        case measure=>simp[intOf];omega
       ·have hku:k=u:=by omega
        subst hku;have CT:Hid (∀w1,St w0 w1 c (growN A2 c.m to seg k) top last→_):=Lib.hid (fun w1 h1=>zv h1 to 1 (smW (k:Int)) hto.out (I64.of (by omega)) (zH _));have h6:=hS.out;go_wp2_with (first|(go_at_call 62;refine(zb _ _ (by omega) (by omega)).mono ?_;rintro e w' ⟨rfl,rfl⟩)|(go_at_call 67;refine(CT.out _ h6).mono ?_;rintro e w' ⟨rfl,h7⟩));go_ret2;exact⟨rfl,h7⟩
  ·rw[segsF_no hp];refine(ksegs_end h seg hs hp).mono ?_;rintro e w' ⟨rfl,h1⟩;exact⟨rfl,h1⟩
end
end Go.Proofs.YtghkahcogphomaaGreat
