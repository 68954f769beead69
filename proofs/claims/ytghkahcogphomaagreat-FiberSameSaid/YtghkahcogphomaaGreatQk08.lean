/- Fibers: a part of the walk. No condition. -/
import Derived.Test.YtghkahcogphomaaGreatQk07
set_option linter.all false
namespace Go.Proofs.YtghkahcogphomaaGreat
section
open Go.ChangeShapes Go.WideShapes Go.RowKit
variable{w0 w w1 w':World}{c:Sk}{A A':Ar}{top:Int}{last:Value}
def placeF(A:Ar)(m:Nat)(top need:Int):Ar×Option Int:=
 if rmF A m (gtF A m top 1)=0 then segF A m 45 (max need 24)
 else if nmF A m (gtF A m top 1) 1+need≤rmF A m (gtF A m top 1)then(A,some (gtF A m top 1))
 else if nmF A m (gtF A m top 1) 1+need≤238 then grownF A m (gtF A m top 1) need
 else segF A m (gtF A m top 1) (max need 24)
theorem rmF_b(wd:A.Wd){m:Nat}{x:Int}(hx:W64 x):0≤rmF A m x∧rmF A m x≤9007199254740992:=by
 have:=szF_b wd (m:=m) hx;unfold rmF;omega
set_option maxHeartbeats 1000000 in
theorem kplace_c(h:St w0 w c A top last)(need:Int)(n0:0≤need)(n1:need≤1000)(hU:rmF A c.m (gtF A c.m top 1)≠0→0≤nmF A c.m (gtF A c.m top 1) 1∧nmF A c.m (gtF A c.m top 1) 1≤1000):Calls Tryz.prog 69 #[.pointer (some ⟨c.kb,0,none⟩),.int .i64 need] w fun e w'=>e=.returned (zM (placeF A c.m top need).2)∧St w0 w' c (placeF A c.m top need).1 top last:=by
 obtain⟨rb0,rb1⟩:=rmF_b h.a.wd (m:=c.m) (h.gw top 1);unfold placeF;by_cases hr:rmF A c.m (gtF A c.m top 1)=0
 ·rw[if_pos hr];have hr2:(rmF A c.m (gtF A c.m top 1)==0)=true:=by simpa using hr
  have CS:=Lib.hid (fun w1 (h1:St w0 w1 c A top last)=>ksegment_c h1 45 (max need 24) zG (by omega) (by omega));obtain⟨x,b,hxb⟩:=wordVal_tuple (segF A c.m 45 (max need 24)).2;rw[hxb]at CS⊢;clear hr hxb hU rb0 rb1;by_cases h24:need<24
  ·have e24:max need 24=24:=by omega
   rw[e24]at CS⊢;clear e24;go_enter Tryz.func69,Tryz.ntmps69;go_wp2_with (first|(go_at_call 100;refine(CS.out _ ‹_›).mono ?_;rintro e w' ⟨rfl,h9⟩)|(first|(go_at_call 46;refine(zh ‹_›).mono ?_;rintro e w' ⟨rfl,rfl⟩)|(go_at_call 52;refine(zU ‹_› _ _ (by first|assumption|exact St.gw ‹_› _ _|exact St.tw ‹_›|exact zG|exact zJ|exact zH _) (by first|exact I64.of (by omega)|assumption)).mono ?_;rintro e w' ⟨rfl,_⟩)|(go_at_call 99;refine(kroom_c ‹_› _ (by first|assumption|exact St.gw ‹_› _ _|exact St.tw ‹_›|exact zG|exact zJ|exact zH _)).mono ?_;rintro e w' ⟨rfl,_⟩)|(go_at_call 49;refine(zK _).mono ?_;rintro e w' ⟨rfl,rfl⟩)));go_ret2;exact⟨rfl,h9⟩
  ·have e24:max need 24=need:=by omega
   rw[e24]at CS⊢;clear e24;go_enter Tryz.func69,Tryz.ntmps69;go_wp2_with (first|(go_at_call 100;refine(CS.out _ ‹_›).mono ?_;rintro e w' ⟨rfl,h9⟩)|(first|(go_at_call 46;refine(zh ‹_›).mono ?_;rintro e w' ⟨rfl,rfl⟩)|(go_at_call 52;refine(zU ‹_› _ _ (by first|assumption|exact St.gw ‹_› _ _|exact St.tw ‹_›|exact zG|exact zJ|exact zH _) (by first|exact I64.of (by omega)|assumption)).mono ?_;rintro e w' ⟨rfl,_⟩)|(go_at_call 99;refine(kroom_c ‹_› _ (by first|assumption|exact St.gw ‹_› _ _|exact St.tw ‹_›|exact zG|exact zJ|exact zH _)).mono ?_;rintro e w' ⟨rfl,_⟩)|(go_at_call 49;refine(zK _).mono ?_;rintro e w' ⟨rfl,rfl⟩)));go_ret2;exact⟨rfl,h9⟩
 ·rw[if_neg hr];have hr2:(rmF A c.m (gtF A c.m top 1)==0)=false:=by simpa using hr
  obtain⟨u0,u1⟩:=hU hr;by_cases hle:nmF A c.m (gtF A c.m top 1) 1+need≤rmF A c.m (gtF A c.m top 1)
  ·rw[if_pos hle];clear hr hU;simp only[zM];go_enter Tryz.func69,Tryz.ntmps69;go_wp2_with (first|(go_at_call 46;refine(zh ‹_›).mono ?_;rintro e w' ⟨rfl,rfl⟩)|(go_at_call 52;refine(zU ‹_› _ _ (by first|assumption|exact St.gw ‹_› _ _|exact St.tw ‹_›|exact zG|exact zJ|exact zH _) (by first|exact I64.of (by omega)|assumption)).mono ?_;rintro e w' ⟨rfl,_⟩)|(go_at_call 99;refine(kroom_c ‹_› _ (by first|assumption|exact St.gw ‹_› _ _|exact St.tw ‹_›|exact zG|exact zJ|exact zH _)).mono ?_;rintro e w' ⟨rfl,_⟩)|(go_at_call 49;refine(zK _).mono ?_;rintro e w' ⟨rfl,rfl⟩)|(go_at_call 70;refine(kused_c ‹_› _ (by first|assumption|exact St.gw ‹_› _ _|exact St.tw ‹_›|exact zG|exact zJ|exact zH _)).mono ?_;rintro e w' ⟨rfl,_⟩));go_ret2;exact⟨rfl,by assumption⟩
  ·rw[if_neg hle];by_cases h238:nmF A c.m (gtF A c.m top 1) 1+need≤238
   ·rw[if_pos h238];have CG:=Lib.hid (fun w1 (h1:St w0 w1 c A top last)=>kgrown_c h1 (gtF A c.m top 1) need (h.gw _ _) n0 n1 u0 u1);obtain⟨x,b,hxb⟩:=wordVal_tuple (grownF A c.m (gtF A c.m top 1) need).2;rw[hxb]at CG⊢;clear hr hU hxb;go_enter Tryz.func69,Tryz.ntmps69;go_wp2_with (first|(go_at_call 101;refine(CG.out _ ‹_›).mono ?_;rintro e w' ⟨rfl,h9⟩)|(first|(go_at_call 46;refine(zh ‹_›).mono ?_;rintro e w' ⟨rfl,rfl⟩)|(go_at_call 52;refine(zU ‹_› _ _ (by first|assumption|exact St.gw ‹_› _ _|exact St.tw ‹_›|exact zG|exact zJ|exact zH _) (by first|exact I64.of (by omega)|assumption)).mono ?_;rintro e w' ⟨rfl,_⟩)|(go_at_call 99;refine(kroom_c ‹_› _ (by first|assumption|exact St.gw ‹_› _ _|exact St.tw ‹_›|exact zG|exact zJ|exact zH _)).mono ?_;rintro e w' ⟨rfl,_⟩)|(go_at_call 49;refine(zK _).mono ?_;rintro e w' ⟨rfl,rfl⟩)|(go_at_call 70;refine(kused_c ‹_› _ (by first|assumption|exact St.gw ‹_› _ _|exact St.tw ‹_›|exact zG|exact zJ|exact zH _)).mono ?_;rintro e w' ⟨rfl,_⟩)));go_ret2;exact⟨rfl,h9⟩
   ·rw[if_neg h238];have CS:=Lib.hid (fun w1 (h1:St w0 w1 c A top last)=>ksegment_c h1 (gtF A c.m top 1) (max need 24) (h.gw _ _) (by omega) (by omega));obtain⟨x,b,hxb⟩:=wordVal_tuple (segF A c.m (gtF A c.m top 1) (max need 24)).2;rw[hxb]at CS⊢;clear hr hxb hU;by_cases h24:need<24
    ·have e24:max need 24=24:=by omega
     rw[e24]at CS⊢;clear e24;go_enter Tryz.func69,Tryz.ntmps69;go_wp2_with (first|(go_at_call 100;refine(CS.out _ ‹_›).mono ?_;rintro e w' ⟨rfl,h9⟩)|(first|(go_at_call 46;refine(zh ‹_›).mono ?_;rintro e w' ⟨rfl,rfl⟩)|(go_at_call 52;refine(zU ‹_› _ _ (by first|assumption|exact St.gw ‹_› _ _|exact St.tw ‹_›|exact zG|exact zJ|exact zH _) (by first|exact I64.of (by omega)|assumption)).mono ?_;rintro e w' ⟨rfl,_⟩)|(go_at_call 99;refine(kroom_c ‹_› _ (by first|assumption|exact St.gw ‹_› _ _|exact St.tw ‹_›|exact zG|exact zJ|exact zH _)).mono ?_;rintro e w' ⟨rfl,_⟩)|(go_at_call 49;refine(zK _).mono ?_;rintro e w' ⟨rfl,rfl⟩)|(go_at_call 70;refine(kused_c ‹_› _ (by first|assumption|exact St.gw ‹_› _ _|exact St.tw ‹_›|exact zG|exact zJ|exact zH _)).mono ?_;rintro e w' ⟨rfl,_⟩)));go_ret2;exact⟨rfl,h9⟩
    ·have e24:max need 24=need:=by omega
     rw[e24]at CS⊢;clear e24;go_enter Tryz.func69,Tryz.ntmps69;go_wp2_with (first|(go_at_call 100;refine(CS.out _ ‹_›).mono ?_;rintro e w' ⟨rfl,h9⟩)|(first|(go_at_call 46;refine(zh ‹_›).mono ?_;rintro e w' ⟨rfl,rfl⟩)|(go_at_call 52;refine(zU ‹_› _ _ (by first|assumption|exact St.gw ‹_› _ _|exact St.tw ‹_›|exact zG|exact zJ|exact zH _) (by first|exact I64.of (by omega)|assumption)).mono ?_;rintro e w' ⟨rfl,_⟩)|(go_at_call 99;refine(kroom_c ‹_› _ (by first|assumption|exact St.gw ‹_› _ _|exact St.tw ‹_›|exact zG|exact zJ|exact zH _)).mono ?_;rintro e w' ⟨rfl,_⟩)|(go_at_call 49;refine(zK _).mono ?_;rintro e w' ⟨rfl,rfl⟩)|(go_at_call 70;refine(kused_c ‹_› _ (by first|assumption|exact St.gw ‹_› _ _|exact St.tw ‹_›|exact zG|exact zJ|exact zH _)).mono ?_;rintro e w' ⟨rfl,_⟩)));go_ret2;exact⟨rfl,h9⟩
def headN(A:Ar)(m:Nat)(seg base:Int)(hd:List Int):Nat→Ar
 |0=>A
 |k+1=>stF (headN A m seg base hd k) m seg (2+base+k) (hd[k]?.getD 0)
def voidN(A:Ar)(m:Nat)(seg base:Int):Nat→Ar
 |0=>A
 |k+1=>stF (voidN A m seg base k) m seg (2+base+5+k) (mkW 5 3)
def headL(A:Ar)(m:Nat)(top cl sl wd:Int):List Int:=[cl,smW 0,gtF A m top 2,smW sl,smW wd]
def pushS(A:Ar)(m:Nat)(top cl sl wd seg:Int):Ar:=
 stF (stF (stF (voidN (headN A m seg (nmF A m seg 1) (headL A m top cl sl wd) 5) m seg (nmF A m seg 1) sl.toNat) m seg 1 (smW (nmF A m seg 1+5+sl))) m top 1 seg) m top 2 (smW (nmF A m seg 1))
def pushF(A:Ar)(m:Nat)(top cl sl wd:Int):Ar×Bool:=
 if sl<0∨wd<0∨180<sl∨180-sl<wd then(A,false)else
 match(placeF A m top (5+sl+wd)).2 with
 |none=>((placeF A m top (5+sl+wd)).1,false)
 |some seg=>(pushS (placeF A m top (5+sl+wd)).1 m top cl sl wd seg,true)
theorem kpush_bad(h:St w0 w c A top last)(cl sl wd:Int)(hb:sl<0∨wd<0∨180<sl∨180-sl<wd):Calls Tryz.prog 17 #[.pointer (some ⟨c.kb,0,none⟩),.int .u64 cl,.int .i64 sl,.int .i64 wd] w fun e w'=>e=.returned (.bool false)∧St w0 w' c A top last:=by
 by_cases q1:sl<0
 ·go_enter Tryz.func17,Tryz.ntmps17;go_wp2;go_ret;exact⟨rfl,h⟩
 ·by_cases q2:wd<0
  ·go_enter Tryz.func17,Tryz.ntmps17;go_wp2;go_ret;exact⟨rfl,h⟩
  ·by_cases q3:180<sl
   ·go_enter Tryz.func17,Tryz.ntmps17;go_wp2;go_ret;exact⟨rfl,h⟩
   ·have q4:180-sl<wd:=by omega
    clear hb;go_enter Tryz.func17,Tryz.ntmps17;go_wp2;go_ret;exact⟨rfl,h⟩
theorem w64_single(n:Int):W64 (mkW 5 n):=mkW_bd 5 n (by omega) (by omega)
theorem idx_head(cl z g sl wd:Int)(k:Nat)(hk:k<5)(w:World):(Instr.index 114 (.agg #[.int .u64 cl,.int .u64 z,.int .u64 g,.int .u64 sl,.int .u64 wd]) (.int .i64 (k:Int))).run Tryz.prog w=.ok (.int .u64 ([cl,z,g,sl,wd][k]?.getD 0)) w:=by
 rcases(by omega:k=0∨k=1∨k=2∨k=3∨k=4)with rfl|rfl|rfl|rfl|rfl
 all_goals kernel_rfl
theorem headL_w(h:St w0 w c A top last){cl sl wd:Int}(hc:W64 cl)(k:Nat):W64 ((headL A c.m top cl sl wd)[k]?.getD 0):=by
 refine w64_nth (fun x hx=> ?_) k;unfold headL at hx;simp at hx;rcases hx with rfl|rfl|rfl|rfl|rfl
 ·exact hc
 ·exact zH _
 ·exact h.gw _ _
 ·exact zH _
 ·exact zH _
set_option maxRecDepth 100000 in
set_option maxHeartbeats 1000000 in
theorem kpush_c(h:St w0 w c A top last)(cl sl wd:Int)(hc:W64 cl)(hg: ¬(sl<0∨wd<0∨180<sl∨180-sl<wd))(hU:rmF A c.m (gtF A c.m top 1)≠0→0≤nmF A c.m (gtF A c.m top 1) 1∧nmF A c.m (gtF A c.m top 1) 1≤1000)
 (hB: ∀seg,(placeF A c.m top (5+sl+wd)).2=some seg→W64 seg∧0≤nmF (placeF A c.m top (5+sl+wd)).1 c.m seg 1∧nmF (placeF A c.m top (5+sl+wd)).1 c.m seg 1≤1000):
 Calls Tryz.prog 17 #[.pointer (some ⟨c.kb,0,none⟩),.int .u64 cl,.int .i64 sl,.int .i64 wd] w fun e w'=>e=.returned (.bool (pushF A c.m top cl sl wd).2)∧St w0 w' c (pushF A c.m top cl sl wd).1 top last:=by
 have q0: ¬sl<0:=by omega
 have q1: ¬wd<0:=by omega
 have q2: ¬180<sl:=by omega
 have q3: ¬180-sl<wd:=by omega
 have CP:=Lib.hid (kplace_c h (5+sl+wd) (by omega) (by omega) hU);unfold pushF;rw[if_neg hg];clear hg hU;cases ho:(placeF A c.m top (5+sl+wd)).2 with
 |none=>
  rw[ho]at CP;simp only[zM]at CP;clear ho hB h;go_enter Tryz.func17,Tryz.ntmps17;go_wp2_with fail;refine CP.out.mono ?_;rintro e w1 ⟨rfl,h1⟩;go_wp2;go_ret;exact⟨rfl,h1⟩
 |some seg=>
  rw[ho]at CP;simp only[zM]at CP;obtain⟨hsg,b0,b1⟩:=hB seg ho;simp only;have PS:Hid (pushS (placeF A c.m top (5+sl+wd)).1 c.m top cl sl wd seg=pushS (placeF A c.m top (5+sl+wd)).1 c.m top cl sl wd seg):=Lib.hid rfl;clear ho hB h PS;generalize (placeF A c.m top (5+sl+wd)).1=A1 at*;obtain⟨bs,hbs⟩: ∃bs,bs=nmF A1 c.m seg 1:=⟨_,rfl⟩;obtain⟨hd,hhd⟩: ∃hd,hd=headL A1 c.m top cl sl wd:=⟨_,rfl⟩;have PS:Hid (pushS A1 c.m top cl sl wd seg=stF (stF (stF (voidN (headN A1 c.m seg bs hd 5) c.m seg bs sl.toNat) c.m seg 1 (smW (bs+5+sl))) c.m top 1 seg) c.m top 2 (smW bs)):=Lib.hid (by unfold pushS;rw[←hbs,←hhd]);have CU:Hid (∀w1,St w0 w1 c A1 top last→Calls Tryz.prog 70 #[.pointer (some ⟨c.kb,0,none⟩),.int .u64 seg] w1 fun e w'=>e=.returned (.int .i64 bs)∧St w0 w' c A1 top last):=Lib.hid (fun w1 h1=>by rw[hbs];exact kused_c h1 seg hsg);have IX:Hid (∀k:Nat,k<5→∀w,(Instr.index 114 (.agg #[.int .u64 cl,.int .u64 (smW 0),.int .u64 (gtF A1 c.m top 2),.int .u64 (smW sl),.int .u64 (smW wd)]) (.int .i64 (k:Int))).run Tryz.prog w=.ok (.int .u64 (hd[k]?.getD 0)) w):=Lib.hid (fun k hk w=>by rw[hhd];exact idx_head _ _ _ _ _ k hk w);have HW:Hid (∀w1,St w0 w1 c A1 top last→∀k:Nat,W64 (hd[k]?.getD 0)):=Lib.hid (fun w1 h1 k=>by rw[hhd];exact headL_w h1 hc k);rw[PS.out];rw[←hbs]at b0 b1;clear hbs hhd PS;obtain⟨s,rfl⟩: ∃s:Nat,sl=(s:Int):=⟨sl.toNat,by omega⟩;rw[Int.toNat_natCast];have hs180:s≤180:=by omega
  go_enter Tryz.func17,Tryz.ntmps17;go_wp2_with fail;refine CP.out.mono ?_;rintro e w1 ⟨rfl,h1⟩;go_wp2_with fail;refine(CU.out _ h1).mono ?_;rintro e w2 ⟨rfl,h2⟩;have HV:=Lib.hid (HW.out _ h2);clear CP CU HW h1;go_wp2_with (first|(go_at_call 62;refine(zb _ _ (by omega) (by omega)).mono ?_;rintro e w' ⟨rfl,rfl⟩)|(go_at_call 46;refine(zh ‹_›).mono ?_;rintro e w' ⟨rfl,rfl⟩)|(go_at_call 52;refine(zU ‹_› _ _ (by first|assumption|exact St.gw ‹_› _ _|exact St.tw ‹_›|exact zG|exact zJ|exact zH _) (by first|exact I64.of (by omega)|assumption)).mono ?_;rintro e w' ⟨rfl,_⟩))
  rename_i h3
  go_loopw [58] (fun y wr=> ∃k:Nat,k≤5∧y=.int .i64 (k:Int)∧Hid (St w0 wr c (headN A1 c.m seg bs hd k) top last)) (fun y _=>5-(intOf y).toNat)
  case atStart=>exact⟨0,by omega,rfl,Lib.hid (St.alloc ‹_› _)⟩
  case round=>
   obtain⟨k,hk,rfl,hS⟩:=hrel;by_cases hlt:k<5
   ·have ix:=IX.out k hlt;have FIN:Hid (∀w2,St w0 w2 c (stF (headN A1 c.m seg bs hd k) c.m seg (2+bs+(k:Int)) (hd[k]?.getD 0)) top last→St w0 w2 c (headN A1 c.m seg bs hd (k+1)) top last):=Lib.hid (fun w2 h=>h);have CS:=Lib.hid (zv hS.out seg (2+bs+(k:Int)) (hd[k]?.getD 0) hsg (I64.of (by omega)) (HV.out k));generalize hd[k]?.getD 0=hv at*;clear IX HV hS;go_wp2_with fail;refine CS.out.mono ?_;rintro e w5 ⟨rfl,h5⟩;have h5:=Lib.hid h5;go_wp2;go_roundw
    case rel=>exact⟨k+1,by omega,by go_num,Lib.hid (FIN.out _ h5.out)⟩
    case measure=>simp[intOf];omega
   ·have hk5:k=5:=by omega
    have hS0:Hid (St w0 wr c (voidN (headN A1 c.m seg bs hd 5) c.m seg bs 0) top last):=Lib.hid (by have:=hS.out;rwa[hk5]at this);clear hk5;clear hS IX HV;go_wp2;go_loopw [72] (fun y wr=> ∃k:Nat,k≤s∧y=.int .i64 (k:Int)∧Hid (St w0 wr c (voidN (headN A1 c.m seg bs hd 5) c.m seg bs k) top last)) (fun y _=>s-(intOf y).toNat)
    case atStart=>exact⟨0,by omega,rfl,hS0⟩
    case round=>
     obtain⟨k,hk,rfl,hS⟩:=hrel;clear hS0;by_cases hlt:k<s
     ·have FIN:Hid (∀w2,St w0 w2 c (stF (voidN (headN A1 c.m seg bs hd 5) c.m seg bs k) c.m seg (2+bs+5+(k:Int)) (mkW 5 3)) top last→St w0 w2 c (voidN (headN A1 c.m seg bs hd 5) c.m seg bs (k+1)) top last):=Lib.hid (fun w2 h=>h);have CS:=Lib.hid (zv hS.out seg (2+bs+5+(k:Int)) (mkW 5 3) hsg (I64.of (by omega)) (w64_single 3));clear hS;go_wp2_with (first|(go_at_call 71;refine(single_c _ _).mono ?_;rintro e w' ⟨rfl,rfl⟩)|(go_at_call 67;refine CS.out.mono ?_;rintro e w5 ⟨rfl,h5⟩));have h5:=Lib.hid h5;go_wp2;go_roundw
      case rel=>exact⟨k+1,by omega,by go_num,Lib.hid (FIN.out _ h5.out)⟩
      case measure=>simp[intOf];omega
     ·have hks:k=s:=by omega
      subst hks;have hA:=hS.out;clear hS;go_wp2_with (first|(go_at_call 62;refine(zb _ _ (by omega) (by omega)).mono ?_;rintro e w' ⟨rfl,rfl⟩)|(go_at_call 46;refine(zh ‹_›).mono ?_;rintro e w' ⟨rfl,rfl⟩)|(go_at_call 67;refine(zv ‹_› _ _ _ (by first|assumption|exact St.gw ‹_› _ _|exact St.tw ‹_›|exact zG|exact zJ|exact zH _) (by first|exact I64.of (by omega)|assumption) (by first|assumption|exact St.gw ‹_› _ _|exact St.tw ‹_›|exact zG|exact zJ|exact zH _)).mono ?_;rintro e w' ⟨rfl,_⟩));go_ret;exact⟨rfl,by assumption⟩
end
end Go.Proofs.YtghkahcogphomaaGreat
