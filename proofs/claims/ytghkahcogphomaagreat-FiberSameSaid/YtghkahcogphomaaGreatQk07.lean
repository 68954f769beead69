/- Fibers: a part of the walk. No condition. -/
import Derived.Test.YtghkahcogphomaaGreatQk06
set_option linter.all false
namespace Go.Proofs.YtghkahcogphomaaGreat
section
open Go.ChangeShapes Go.WideShapes Go.RowKit
variable{w0 w w1 w':World}{c:Sk}{A A':Ar}{top:Int}{last:Value}
structure FrOk(A:Ar)(m:Nat)(top:Int):Prop where
 b0: -1≤nmF A m top 2
 b1:nmF A m top 2≤1000
 u:nmF A m top 2≠ -1→0≤nmF A m (gtF A m top 1) 1∧nmF A m (gtF A m top 1) 1≤1000
 s:nmF A m top 2≠ -1→0≤nmF A m (gtF A m top 1) (2+nmF A m top 2+3)∧nmF A m (gtF A m top 1) (2+nmF A m top 2+3)≤1000
 r:nmF A m top 2≠ -1→0≤nmF A m (gtF A m top 1) (2+nmF A m top 2+4)∧nmF A m (gtF A m top 1) (2+nmF A m top 2+4)≤1000
def noF(A:Ar)(m:Nat)(top:Int):Bool:=nmF A m top 2== -1
theorem noF_yes(h:noF A c.m top=true):(nmF A c.m top 2 != -1)=false:=by unfold noF at h;simp at h⊢;exact h
theorem noF_no(h:noF A c.m top=false):(nmF A c.m top 2 != -1)=true:=by unfold noF at h;simp at h⊢;exact h
theorem noF_ne(h:noF A c.m top=false):nmF A c.m top 2≠ -1:=by unfold noF at h;simpa using h
theorem kheader_c(h:St w0 w c A top last)(F:FrOk A c.m top)(i:Int)(i0:0≤i)(i1:i≤10):Calls Tryz.prog 92 #[.pointer (some ⟨c.kb,0,none⟩),.int .i64 i] w fun e w'=>e=.returned (if noF A c.m top=true then .tuple #[.int .u64 45,.bool false]else .tuple #[.int .u64 (gtF A c.m (gtF A c.m top 1) (2+nmF A c.m top 2+i)),.bool true])∧St w0 w' c A top last:=by
 have b0:=F.b0;have b1:=F.b1;cases hn:noF A c.m top with
 |true=>
  have t1:=noF_yes hn;clear hn;rw[if_pos rfl];go_enter Tryz.func92,Tryz.ntmps92;go_wp2_with (first|(go_at_call 78;refine(kat_c ‹_›).mono ?_;rintro e w' ⟨rfl,_⟩)|(go_at_call 49;refine(zK _).mono ?_;rintro e w' ⟨rfl,rfl⟩)|(go_at_call 52;refine(zU ‹_› _ _ (by first|assumption|exact St.gw ‹_› _ _|exact St.tw ‹_›|exact zG|exact zJ|exact zH _) (by first|exact I64.of (by omega)|assumption)).mono ?_;rintro e w' ⟨rfl,_⟩));go_ret2;exact⟨rfl,by assumption⟩
 |false=>
  have t1:=noF_no hn;obtain⟨u0,u1⟩:=F.u (noF_ne hn);obtain⟨s0,s1⟩:=F.s (noF_ne hn);obtain⟨r0,r1⟩:=F.r (noF_ne hn);clear hn;rw[if_neg Bool.false_ne_true];go_enter Tryz.func92,Tryz.ntmps92;go_wp2_with (first|(go_at_call 78;refine(kat_c ‹_›).mono ?_;rintro e w' ⟨rfl,_⟩)|(go_at_call 49;refine(zK _).mono ?_;rintro e w' ⟨rfl,rfl⟩)|(go_at_call 52;refine(zU ‹_› _ _ (by first|assumption|exact St.gw ‹_› _ _|exact St.tw ‹_›|exact zG|exact zJ|exact zH _) (by first|exact I64.of (by omega)|assumption)).mono ?_;rintro e w' ⟨rfl,_⟩));go_ret2;exact⟨rfl,by assumption⟩
theorem kclosure_c(h:St w0 w c A top last)(F:FrOk A c.m top):Calls Tryz.prog 56 #[.pointer (some ⟨c.kb,0,none⟩)] w fun e w'=>e=.returned (.int .u64 (if noF A c.m top=true then 45 else gtF A c.m (gtF A c.m top 1) (2+nmF A c.m top 2)))∧St w0 w' c A top last:=by
 have CH:=Lib.hid (by have:=kheader_c h F 0 (by omega) (by omega);simpa only[Int.add_zero]using this);cases hn:noF A c.m top with
 |true=>
  rw[hn,if_pos rfl]at CH;rw[if_pos rfl];clear hn;go_enter Tryz.func56,Tryz.ntmps56;go_wp2_with fail;refine CH.out.mono ?_;rintro e w' ⟨rfl,_⟩;go_wp2;go_ret;exact⟨rfl,by assumption⟩
 |false=>
  rw[hn,if_neg Bool.false_ne_true]at CH;rw[if_neg Bool.false_ne_true];clear hn;go_enter Tryz.func56,Tryz.ntmps56;go_wp2_with fail;refine CH.out.mono ?_;rintro e w' ⟨rfl,_⟩;go_wp2;go_ret;exact⟨rfl,by assumption⟩
theorem kpc_c(h:St w0 w c A top last)(F:FrOk A c.m top):Calls Tryz.prog 57 #[.pointer (some ⟨c.kb,0,none⟩)] w fun e w'=>e=.returned (.int .i64 (if noF A c.m top=true then 0 else nmF A c.m (gtF A c.m top 1) (2+nmF A c.m top 2+1)))∧St w0 w' c A top last:=by
 have CH:=Lib.hid (kheader_c h F 1 (by omega) (by omega));cases hn:noF A c.m top with
 |true=>
  rw[hn,if_pos rfl]at CH;rw[if_pos rfl];clear hn;go_enter Tryz.func57,Tryz.ntmps57;go_wp2_with fail;refine CH.out.mono ?_;rintro e w' ⟨rfl,_⟩;go_wp2;go_ret;exact⟨rfl,by assumption⟩
 |false=>
  rw[hn,if_neg Bool.false_ne_true]at CH;rw[if_neg Bool.false_ne_true];clear hn;go_enter Tryz.func57,Tryz.ntmps57;go_wp2_with fail;refine CH.out.mono ?_;rintro e w' ⟨rfl,_⟩;go_wp2_with (first|(go_at_call 93;refine(value_c _ _ (W64.lo (by first|assumption|exact St.gw ‹_› _ _|exact St.tw ‹_›|exact zG|exact zJ|exact zH _)) (W64.hi (by first|assumption|exact St.gw ‹_› _ _|exact St.tw ‹_›|exact zG|exact zJ|exact zH _))).mono ?_;rintro e w' ⟨rfl,rfl⟩));go_ret;exact⟨rfl,by assumption⟩
def setpcF(A:Ar)(m:Nat)(top n:Int):Ar:=if noF A m top=true then A else stF A m (gtF A m top 1) (2+nmF A m top 2+1) (smW n)
theorem ksetpc_c(h:St w0 w c A top last)(F:FrOk A c.m top)(n:Int)(n0: -1000000≤n)(n1:n≤1000000):Calls Tryz.prog 25 #[.pointer (some ⟨c.kb,0,none⟩),.int .i64 n] w fun e w'=>e=.returned (.tuple #[])∧St w0 w' c (setpcF A c.m top n) top last:=by
 have b0:=F.b0;have b1:=F.b1;unfold setpcF;cases hn:noF A c.m top with
 |true=>
  have t1:=noF_yes hn;clear hn;rw[if_pos rfl];go_enter Tryz.func25,Tryz.ntmps25;go_wp2_with (first|(go_at_call 78;refine(kat_c ‹_›).mono ?_;rintro e w' ⟨rfl,_⟩)|(go_at_call 62;refine(zb _ _ (by omega) (by omega)).mono ?_;rintro e w' ⟨rfl,rfl⟩)|(go_at_call 67;refine(zv ‹_› _ _ _ (by first|assumption|exact St.gw ‹_› _ _|exact St.tw ‹_›|exact zG|exact zJ|exact zH _) (by first|exact I64.of (by omega)|assumption) (by first|assumption|exact St.gw ‹_› _ _|exact St.tw ‹_›|exact zG|exact zJ|exact zH _)).mono ?_;rintro e w' ⟨rfl,_⟩))
  go_end0
  exact⟨rfl,by assumption⟩
 |false=>
  have t1:=noF_no hn;obtain⟨u0,u1⟩:=F.u (noF_ne hn);obtain⟨s0,s1⟩:=F.s (noF_ne hn);obtain⟨r0,r1⟩:=F.r (noF_ne hn);clear hn;rw[if_neg Bool.false_ne_true];go_enter Tryz.func25,Tryz.ntmps25;go_wp2_with (first|(go_at_call 78;refine(kat_c ‹_›).mono ?_;rintro e w' ⟨rfl,_⟩)|(go_at_call 62;refine(zb _ _ (by omega) (by omega)).mono ?_;rintro e w' ⟨rfl,rfl⟩)|(go_at_call 67;refine(zv ‹_› _ _ _ (by first|assumption|exact St.gw ‹_› _ _|exact St.tw ‹_›|exact zG|exact zJ|exact zH _) (by first|exact I64.of (by omega)|assumption) (by first|assumption|exact St.gw ‹_› _ _|exact St.tw ‹_›|exact zG|exact zJ|exact zH _)).mono ?_;rintro e w' ⟨rfl,_⟩))
  go_end0
  exact⟨rfl,by assumption⟩
def wordsF(A:Ar)(m:Nat)(top:Int):Int:=if noF A m top=true then 0 else nmF A m (gtF A m top 1) 1-nmF A m top 2-5-nmF A m (gtF A m top 1) (2+nmF A m top 2+3)
theorem kwords_c(h:St w0 w c A top last)(F:FrOk A c.m top):Calls Tryz.prog 58 #[.pointer (some ⟨c.kb,0,none⟩)] w fun e w'=>e=.returned (.int .i64 (wordsF A c.m top))∧St w0 w' c A top last:=by
 have b0:=F.b0;have b1:=F.b1;unfold wordsF;cases hn:noF A c.m top with
 |true=>
  have t1:=noF_yes hn;clear hn;rw[if_pos rfl];go_enter Tryz.func58,Tryz.ntmps58;go_wp2_with (first|(go_at_call 78;refine(kat_c ‹_›).mono ?_;rintro e w' ⟨rfl,_⟩)|(go_at_call 70;refine(kused_c ‹_› _ (by first|assumption|exact St.gw ‹_› _ _|exact St.tw ‹_›|exact zG|exact zJ|exact zH _)).mono ?_;rintro e w' ⟨rfl,_⟩)|(go_at_call 66;refine(knum_c ‹_› _ _ (by first|assumption|exact St.gw ‹_› _ _|exact St.tw ‹_›|exact zG|exact zJ|exact zH _) (by first|exact I64.of (by omega)|assumption)).mono ?_;rintro e w' ⟨rfl,_⟩));go_ret;exact⟨ret_int (by omega),by assumption⟩
 |false=>
  have t1:=noF_no hn;obtain⟨u0,u1⟩:=F.u (noF_ne hn);obtain⟨s0,s1⟩:=F.s (noF_ne hn);obtain⟨r0,r1⟩:=F.r (noF_ne hn);clear hn;rw[if_neg Bool.false_ne_true];go_enter Tryz.func58,Tryz.ntmps58;go_wp2_with (first|(go_at_call 78;refine(kat_c ‹_›).mono ?_;rintro e w' ⟨rfl,_⟩)|(go_at_call 70;refine(kused_c ‹_› _ (by first|assumption|exact St.gw ‹_› _ _|exact St.tw ‹_›|exact zG|exact zJ|exact zH _)).mono ?_;rintro e w' ⟨rfl,_⟩)|(go_at_call 66;refine(knum_c ‹_› _ _ (by first|assumption|exact St.gw ‹_› _ _|exact St.tw ‹_›|exact zG|exact zJ|exact zH _) (by first|exact I64.of (by omega)|assumption)).mono ?_;rintro e w' ⟨rfl,_⟩));go_ret;exact⟨ret_int (by omega),by assumption⟩
def slotsF(A:Ar)(m:Nat)(top:Int):Int:=nmF A m (gtF A m top 1) (2+nmF A m top 2+3)
def slotF(A:Ar)(m:Nat)(top i:Int):Option Int:=if noF A m top=true then none else if i<0∨slotsF A m top≤i then none else some (2+nmF A m top 2+5+i)
def slotVal(seg:Int):Option Int→Value
 |none=> .tuple #[.int .u64 0,.int .i64 0,.bool false]
 |some p=> .tuple #[.int .u64 seg,.int .i64 p,.bool true]
theorem kslotat_c(h:St w0 w c A top last)(F:FrOk A c.m top)(i:Int):Calls Tryz.prog 80 #[.pointer (some ⟨c.kb,0,none⟩),.int .i64 i] w fun e w'=>e=.returned (slotVal (gtF A c.m top 1) (slotF A c.m top i))∧St w0 w' c A top last:=by
 have b0:=F.b0;have b1:=F.b1;unfold slotF slotsF;cases hn:noF A c.m top with
 |true=>
  have t1:=noF_yes hn;clear hn;rw[if_pos rfl];simp only[slotVal];go_enter Tryz.func80,Tryz.ntmps80;go_wp2_with (first|(go_at_call 78;refine(kat_c ‹_›).mono ?_;rintro e w' ⟨rfl,_⟩)|(go_at_call 66;refine(knum_c ‹_› _ _ (by first|assumption|exact St.gw ‹_› _ _|exact St.tw ‹_›|exact zG|exact zJ|exact zH _) (by first|exact I64.of (by omega)|assumption)).mono ?_;rintro e w' ⟨rfl,_⟩));go_ret3;exact⟨rfl,by assumption⟩
 |false=>
  have t1:=noF_no hn;obtain⟨u0,u1⟩:=F.u (noF_ne hn);obtain⟨s0,s1⟩:=F.s (noF_ne hn);obtain⟨r0,r1⟩:=F.r (noF_ne hn);clear hn;rw[if_neg Bool.false_ne_true];by_cases hi:i<0
  ·rw[if_pos (.inl hi)];simp only[slotVal];go_enter Tryz.func80,Tryz.ntmps80;go_wp2_with (first|(go_at_call 78;refine(kat_c ‹_›).mono ?_;rintro e w' ⟨rfl,_⟩)|(go_at_call 66;refine(knum_c ‹_› _ _ (by first|assumption|exact St.gw ‹_› _ _|exact St.tw ‹_›|exact zG|exact zJ|exact zH _) (by first|exact I64.of (by omega)|assumption)).mono ?_;rintro e w' ⟨rfl,_⟩));go_ret3;exact⟨rfl,by assumption⟩
  ·by_cases hs:nmF A c.m (gtF A c.m top 1) (2+nmF A c.m top 2+3)≤i
   ·rw[if_pos (.inr hs)];simp only[slotVal];go_enter Tryz.func80,Tryz.ntmps80;go_wp2_with (first|(go_at_call 78;refine(kat_c ‹_›).mono ?_;rintro e w' ⟨rfl,_⟩)|(go_at_call 66;refine(knum_c ‹_› _ _ (by first|assumption|exact St.gw ‹_› _ _|exact St.tw ‹_›|exact zG|exact zJ|exact zH _) (by first|exact I64.of (by omega)|assumption)).mono ?_;rintro e w' ⟨rfl,_⟩));go_ret3;exact⟨rfl,by assumption⟩
   ·rw[if_neg (by omega)];simp only[slotVal];go_enter Tryz.func80,Tryz.ntmps80;go_wp2_with (first|(go_at_call 78;refine(kat_c ‹_›).mono ?_;rintro e w' ⟨rfl,_⟩)|(go_at_call 66;refine(knum_c ‹_› _ _ (by first|assumption|exact St.gw ‹_› _ _|exact St.tw ‹_›|exact zG|exact zJ|exact zH _) (by first|exact I64.of (by omega)|assumption)).mono ?_;rintro e w' ⟨rfl,_⟩));go_ret3;exact⟨rfl,by assumption⟩
theorem kslot_c(h:St w0 w c A top last)(F:FrOk A c.m top)(i:Int)(i0: -1000000≤i)(i1:i≤1000000):Calls Tryz.prog 59 #[.pointer (some ⟨c.kb,0,none⟩),.int .i64 i] w fun e w'=>e=.returned (.int .u64 (match slotF A c.m top i with|none=>45|some p=>gtF A c.m (gtF A c.m top 1) p))∧St w0 w' c A top last:=by
 have CH:=Lib.hid (kslotat_c h F i)
 have PB: ∀p,slotF A c.m top i=some p→ -1000≤p∧p≤1005000:=by
  intro p hp;unfold slotF at hp;cases hn:noF A c.m top with
  |true=>rw[hn,if_pos rfl]at hp;cases hp
  |false=>
   have:=F.b0;have:=F.b1;rw[hn,if_neg Bool.false_ne_true]at hp;by_cases hc:i<0∨slotsF A c.m top≤i
   ·rw[if_pos hc]at hp;cases hp
   ·rw[if_neg hc]at hp;simp at hp;omega
 cases hs:slotF A c.m top i with
 |none=>
  rw[hs]at CH;simp only[slotVal]at CH;clear PB hs;go_enter Tryz.func59,Tryz.ntmps59;go_wp2_with fail;refine CH.out.mono ?_;rintro e w' ⟨rfl,_⟩;go_wp2_with (first|(go_at_call 49;refine(zK _).mono ?_;rintro e w' ⟨rfl,rfl⟩));go_ret;exact⟨rfl,by assumption⟩
 |some p=>
  rw[hs]at CH;simp only[slotVal]at CH;obtain⟨p0,p1⟩:=PB p hs;have hp:I64 p:=by unfold I64;omega
  clear PB hs;go_enter Tryz.func59,Tryz.ntmps59;go_wp2_with fail;refine CH.out.mono ?_;rintro e w' ⟨rfl,_⟩;go_wp2_with (first|(go_at_call 52;refine(zU ‹_› _ _ (by first|assumption|exact St.gw ‹_› _ _|exact St.tw ‹_›|exact zG|exact zJ|exact zH _) (by first|exact I64.of (by omega)|assumption)).mono ?_;rintro e w' ⟨rfl,_⟩));go_ret;exact⟨rfl,by assumption⟩
def roomF(A:Ar)(m:Nat)(top:Int):Int:=nmF A m (gtF A m top 1) (2+nmF A m top 2+4)
def usedF(A:Ar)(m:Nat)(top:Int):Int:=nmF A m (gtF A m top 1) 1
def putF(A:Ar)(m:Nat)(top v:Int):Ar×Bool:=
 if noF A m top=true then(A,false)else if roomF A m top≤wordsF A m top then(A,false)
 else(stF (stF A m (gtF A m top 1) (2+usedF A m top) v) m (gtF A m top 1) 1 (smW (usedF A m top+1)),true)
theorem kput_c(h:St w0 w c A top last)(F:FrOk A c.m top)(v:Int)(hv:W64 v):Calls Tryz.prog 30 #[.pointer (some ⟨c.kb,0,none⟩),.int .u64 v] w fun e w'=>e=.returned (.bool (putF A c.m top v).2)∧St w0 w' c (putF A c.m top v).1 top last:=by
 have b0:=F.b0;have b1:=F.b1;unfold putF;cases hn:noF A c.m top with
 |true=>
  have t1:=noF_yes hn;clear hn;rw[if_pos rfl];go_enter Tryz.func30,Tryz.ntmps30;go_wp2_with (first|(go_at_call 78;refine(kat_c ‹_›).mono ?_;rintro e w' ⟨rfl,_⟩)|(go_at_call 70;refine(kused_c ‹_› _ (by first|assumption|exact St.gw ‹_› _ _|exact St.tw ‹_›|exact zG|exact zJ|exact zH _)).mono ?_;rintro e w' ⟨rfl,_⟩)|(go_at_call 66;refine(knum_c ‹_› _ _ (by first|assumption|exact St.gw ‹_› _ _|exact St.tw ‹_›|exact zG|exact zJ|exact zH _) (by first|exact I64.of (by omega)|assumption)).mono ?_;rintro e w' ⟨rfl,_⟩)|(go_at_call 58;refine(kwords_c ‹_› F).mono ?_;rintro e w' ⟨rfl,_⟩)|(go_at_call 67;refine(zv ‹_› _ _ _ (by first|assumption|exact St.gw ‹_› _ _|exact St.tw ‹_›|exact zG|exact zJ|exact zH _) (by first|exact I64.of (by omega)|assumption) (by first|assumption|exact St.gw ‹_› _ _|exact St.tw ‹_›|exact zG|exact zJ|exact zH _)).mono ?_;rintro e w' ⟨rfl,_⟩)|(go_at_call 62;refine(zb _ _ (by omega) (by omega)).mono ?_;rintro e w' ⟨rfl,rfl⟩));go_ret;exact⟨rfl,by assumption⟩
 |false=>
  have t1:=noF_no hn;obtain⟨u0,u1⟩:=F.u (noF_ne hn);obtain⟨s0,s1⟩:=F.s (noF_ne hn);obtain⟨r0,r1⟩:=F.r (noF_ne hn);clear hn;rw[if_neg Bool.false_ne_true];by_cases hs:roomF A c.m top≤wordsF A c.m top
  ·rw[if_pos hs];unfold roomF at hs;go_enter Tryz.func30,Tryz.ntmps30;go_wp2_with (first|(go_at_call 78;refine(kat_c ‹_›).mono ?_;rintro e w' ⟨rfl,_⟩)|(go_at_call 70;refine(kused_c ‹_› _ (by first|assumption|exact St.gw ‹_› _ _|exact St.tw ‹_›|exact zG|exact zJ|exact zH _)).mono ?_;rintro e w' ⟨rfl,_⟩)|(go_at_call 66;refine(knum_c ‹_› _ _ (by first|assumption|exact St.gw ‹_› _ _|exact St.tw ‹_›|exact zG|exact zJ|exact zH _) (by first|exact I64.of (by omega)|assumption)).mono ?_;rintro e w' ⟨rfl,_⟩)|(go_at_call 58;refine(kwords_c ‹_› F).mono ?_;rintro e w' ⟨rfl,_⟩)|(go_at_call 67;refine(zv ‹_› _ _ _ (by first|assumption|exact St.gw ‹_› _ _|exact St.tw ‹_›|exact zG|exact zJ|exact zH _) (by first|exact I64.of (by omega)|assumption) (by first|assumption|exact St.gw ‹_› _ _|exact St.tw ‹_›|exact zG|exact zJ|exact zH _)).mono ?_;rintro e w' ⟨rfl,_⟩)|(go_at_call 62;refine(zb _ _ (by omega) (by omega)).mono ?_;rintro e w' ⟨rfl,rfl⟩));go_ret;exact⟨rfl,by assumption⟩
  ·rw[if_neg hs];unfold roomF at hs;unfold usedF;go_enter Tryz.func30,Tryz.ntmps30;go_wp2_with (first|(go_at_call 78;refine(kat_c ‹_›).mono ?_;rintro e w' ⟨rfl,_⟩)|(go_at_call 70;refine(kused_c ‹_› _ (by first|assumption|exact St.gw ‹_› _ _|exact St.tw ‹_›|exact zG|exact zJ|exact zH _)).mono ?_;rintro e w' ⟨rfl,_⟩)|(go_at_call 66;refine(knum_c ‹_› _ _ (by first|assumption|exact St.gw ‹_› _ _|exact St.tw ‹_›|exact zG|exact zJ|exact zH _) (by first|exact I64.of (by omega)|assumption)).mono ?_;rintro e w' ⟨rfl,_⟩)|(go_at_call 58;refine(kwords_c ‹_› F).mono ?_;rintro e w' ⟨rfl,_⟩)|(go_at_call 67;refine(zv ‹_› _ _ _ (by first|assumption|exact St.gw ‹_› _ _|exact St.tw ‹_›|exact zG|exact zJ|exact zH _) (by first|exact I64.of (by omega)|assumption) (by first|assumption|exact St.gw ‹_› _ _|exact St.tw ‹_›|exact zG|exact zJ|exact zH _)).mono ?_;rintro e w' ⟨rfl,_⟩)|(go_at_call 62;refine(zb _ _ (by omega) (by omega)).mono ?_;rintro e w' ⟨rfl,rfl⟩));go_ret;exact⟨rfl,by assumption⟩
def takeF(A:Ar)(m:Nat)(top:Int):Ar×Int:=
 if wordsF A m top=0 then(A,45)
 else(stF A m (gtF A m top 1) 1 (smW (usedF A m top-1)),gtF (stF A m (gtF A m top 1) 1 (smW (usedF A m top-1))) m (gtF A m top 1) (2+(usedF A m top-1)))
theorem ktake_c(h:St w0 w c A top last)(F:FrOk A c.m top):Calls Tryz.prog 32 #[.pointer (some ⟨c.kb,0,none⟩)] w fun e w'=>e=.returned (.int .u64 (takeF A c.m top).2)∧St w0 w' c (takeF A c.m top).1 top last:=by
 have b0:=F.b0;have b1:=F.b1;unfold takeF;by_cases hw:wordsF A c.m top=0
 ·rw[if_pos hw];have hw2:(wordsF A c.m top==0)=true:=by simpa using hw
  clear hw;go_enter Tryz.func32,Tryz.ntmps32;go_wp2_with (first|(go_at_call 78;refine(kat_c ‹_›).mono ?_;rintro e w' ⟨rfl,_⟩)|(go_at_call 70;refine(kused_c ‹_› _ (by first|assumption|exact St.gw ‹_› _ _|exact St.tw ‹_›|exact zG|exact zJ|exact zH _)).mono ?_;rintro e w' ⟨rfl,_⟩)|(go_at_call 66;refine(knum_c ‹_› _ _ (by first|assumption|exact St.gw ‹_› _ _|exact St.tw ‹_›|exact zG|exact zJ|exact zH _) (by first|exact I64.of (by omega)|assumption)).mono ?_;rintro e w' ⟨rfl,_⟩)|(go_at_call 58;refine(kwords_c ‹_› F).mono ?_;rintro e w' ⟨rfl,_⟩)|(go_at_call 67;refine(zv ‹_› _ _ _ (by first|assumption|exact St.gw ‹_› _ _|exact St.tw ‹_›|exact zG|exact zJ|exact zH _) (by first|exact I64.of (by omega)|assumption) (by first|assumption|exact St.gw ‹_› _ _|exact St.tw ‹_›|exact zG|exact zJ|exact zH _)).mono ?_;rintro e w' ⟨rfl,_⟩)|(go_at_call 62;refine(zb _ _ (by omega) (by omega)).mono ?_;rintro e w' ⟨rfl,rfl⟩)|(go_at_call 52;refine(zU ‹_› _ _ (by first|assumption|exact St.gw ‹_› _ _|exact St.tw ‹_›|exact zG|exact zJ|exact zH _) (by first|exact I64.of (by omega)|assumption)).mono ?_;rintro e w' ⟨rfl,_⟩)|(go_at_call 49;refine(zK _).mono ?_;rintro e w' ⟨rfl,rfl⟩));go_ret;exact⟨rfl,by assumption⟩
 ·rw[if_neg hw];have hw2:(wordsF A c.m top==0)=false:=by simpa using hw
  have hn:noF A c.m top=false:=by
   cases hn:noF A c.m top with
   |false=>rfl
   |true=>exact absurd (by unfold wordsF;rw[if_pos hn]) hw
  obtain⟨u0,u1⟩:=F.u (noF_ne hn);clear hw hn;unfold usedF;go_enter Tryz.func32,Tryz.ntmps32;go_wp2_with (first|(go_at_call 78;refine(kat_c ‹_›).mono ?_;rintro e w' ⟨rfl,_⟩)|(go_at_call 70;refine(kused_c ‹_› _ (by first|assumption|exact St.gw ‹_› _ _|exact St.tw ‹_›|exact zG|exact zJ|exact zH _)).mono ?_;rintro e w' ⟨rfl,_⟩)|(go_at_call 66;refine(knum_c ‹_› _ _ (by first|assumption|exact St.gw ‹_› _ _|exact St.tw ‹_›|exact zG|exact zJ|exact zH _) (by first|exact I64.of (by omega)|assumption)).mono ?_;rintro e w' ⟨rfl,_⟩)|(go_at_call 58;refine(kwords_c ‹_› F).mono ?_;rintro e w' ⟨rfl,_⟩)|(go_at_call 67;refine(zv ‹_› _ _ _ (by first|assumption|exact St.gw ‹_› _ _|exact St.tw ‹_›|exact zG|exact zJ|exact zH _) (by first|exact I64.of (by omega)|assumption) (by first|assumption|exact St.gw ‹_› _ _|exact St.tw ‹_›|exact zG|exact zJ|exact zH _)).mono ?_;rintro e w' ⟨rfl,_⟩)|(go_at_call 62;refine(zb _ _ (by omega) (by omega)).mono ?_;rintro e w' ⟨rfl,rfl⟩)|(go_at_call 52;refine(zU ‹_› _ _ (by first|assumption|exact St.gw ‹_› _ _|exact St.tw ‹_›|exact zG|exact zJ|exact zH _) (by first|exact I64.of (by omega)|assumption)).mono ?_;rintro e w' ⟨rfl,_⟩)|(go_at_call 49;refine(zK _).mono ?_;rintro e w' ⟨rfl,rfl⟩));go_ret;exact⟨rfl,by assumption⟩
def popF(A:Ar)(m:Nat)(top:Int):Ar×Bool:=
 if noF A m top=true then(A,false)else
 let seg:=gtF A m top 1
 let b:=nmF A m top 2
 let A1:=stF A m seg 1 (smW b)
 let A2:=if b=0∧gtF A1 m seg 0%8=1 then stF A1 m top 1 (gtF A1 m seg 0)else A1
 (stF A2 m top 2 (gtF A m seg (2+b+2)),true)
theorem kpop_c(h:St w0 w c A top last)(F:FrOk A c.m top):Calls Tryz.prog 24 #[.pointer (some ⟨c.kb,0,none⟩)] w fun e w'=>e=.returned (.bool (popF A c.m top).2)∧St w0 w' c (popF A c.m top).1 top last:=by
 have b0:=F.b0;have b1:=F.b1;unfold popF;cases hn:noF A c.m top with
 |true=>
  have t1:=noF_yes hn;clear hn;rw[if_pos rfl];go_enter Tryz.func24,Tryz.ntmps24;go_wp2_with (first|(go_at_call 78;refine(kat_c ‹_›).mono ?_;rintro e w' ⟨rfl,_⟩)|(go_at_call 67;refine(zv ‹_› _ _ _ (by first|assumption|exact St.gw ‹_› _ _|exact St.tw ‹_›|exact zG|exact zJ|exact zH _) (by first|exact I64.of (by omega)|assumption) (by first|assumption|exact St.gw ‹_› _ _|exact St.tw ‹_›|exact zG|exact zJ|exact zH _)).mono ?_;rintro e w' ⟨rfl,_⟩)|(go_at_call 62;refine(zb _ _ (by omega) (by omega)).mono ?_;rintro e w' ⟨rfl,rfl⟩)|(go_at_call 52;refine(zU ‹_› _ _ (by first|assumption|exact St.gw ‹_› _ _|exact St.tw ‹_›|exact zG|exact zJ|exact zH _) (by first|exact I64.of (by omega)|assumption)).mono ?_;rintro e w' ⟨rfl,_⟩)|(go_at_call 46;refine(zh ‹_›).mono ?_;rintro e w' ⟨rfl,rfl⟩)|(go_at_call 48;refine(zx _ _ (W64.lo (by first|assumption|exact St.gw ‹_› _ _|exact St.tw ‹_›|exact zG|exact zJ|exact zH _)) (W64.hi (by first|assumption|exact St.gw ‹_› _ _|exact St.tw ‹_›|exact zG|exact zJ|exact zH _))).mono ?_;rintro e w' ⟨rfl,rfl⟩));go_ret;exact⟨rfl,by assumption⟩
 |false=>
  have t1:=noF_no hn;obtain⟨u0,u1⟩:=F.u (noF_ne hn);obtain⟨s0,s1⟩:=F.s (noF_ne hn);obtain⟨r0,r1⟩:=F.r (noF_ne hn);clear hn;rw[if_neg Bool.false_ne_true];simp only;have e2:2+nmF A c.m top 2-2=nmF A c.m top 2:=by omega
  by_cases hb:nmF A c.m top 2=0
  ·have hb2:(nmF A c.m top 2==0)=true:=by simpa using hb
   by_cases hk:gtF (stF A c.m (gtF A c.m top 1) 1 (smW (nmF A c.m top 2))) c.m (gtF A c.m top 1) 0%8=1
   ·have hk2:(gtF (stF A c.m (gtF A c.m top 1) 1 (smW (nmF A c.m top 2))) c.m (gtF A c.m top 1) 0%8==1)=true:=by simpa using hk
    rw[if_pos ⟨hb,hk⟩];clear hb hk;go_enter Tryz.func24,Tryz.ntmps24;go_wp2_with (first|(go_at_call 78;refine(kat_c ‹_›).mono ?_;rintro e w' ⟨rfl,_⟩)|(go_at_call 67;refine(zv ‹_› _ _ _ (by first|assumption|exact St.gw ‹_› _ _|exact St.tw ‹_›|exact zG|exact zJ|exact zH _) (by first|exact I64.of (by omega)|assumption) (by first|assumption|exact St.gw ‹_› _ _|exact St.tw ‹_›|exact zG|exact zJ|exact zH _)).mono ?_;rintro e w' ⟨rfl,_⟩)|(go_at_call 62;refine(zb _ _ (by omega) (by omega)).mono ?_;rintro e w' ⟨rfl,rfl⟩)|(go_at_call 52;refine(zU ‹_› _ _ (by first|assumption|exact St.gw ‹_› _ _|exact St.tw ‹_›|exact zG|exact zJ|exact zH _) (by first|exact I64.of (by omega)|assumption)).mono ?_;rintro e w' ⟨rfl,_⟩)|(go_at_call 46;refine(zh ‹_›).mono ?_;rintro e w' ⟨rfl,rfl⟩)|(go_at_call 48;refine(zx _ _ (W64.lo (by first|assumption|exact St.gw ‹_› _ _|exact St.tw ‹_›|exact zG|exact zJ|exact zH _)) (W64.hi (by first|assumption|exact St.gw ‹_› _ _|exact St.tw ‹_›|exact zG|exact zJ|exact zH _))).mono ?_;rintro e w' ⟨rfl,rfl⟩));go_ret;exact⟨rfl,by assumption⟩
   ·have hk2:(gtF (stF A c.m (gtF A c.m top 1) 1 (smW (nmF A c.m top 2))) c.m (gtF A c.m top 1) 0%8==1)=false:=by simpa using hk
    rw[if_neg (fun h=>hk h.2)];clear hb hk;go_enter Tryz.func24,Tryz.ntmps24;go_wp2_with (first|(go_at_call 78;refine(kat_c ‹_›).mono ?_;rintro e w' ⟨rfl,_⟩)|(go_at_call 67;refine(zv ‹_› _ _ _ (by first|assumption|exact St.gw ‹_› _ _|exact St.tw ‹_›|exact zG|exact zJ|exact zH _) (by first|exact I64.of (by omega)|assumption) (by first|assumption|exact St.gw ‹_› _ _|exact St.tw ‹_›|exact zG|exact zJ|exact zH _)).mono ?_;rintro e w' ⟨rfl,_⟩)|(go_at_call 62;refine(zb _ _ (by omega) (by omega)).mono ?_;rintro e w' ⟨rfl,rfl⟩)|(go_at_call 52;refine(zU ‹_› _ _ (by first|assumption|exact St.gw ‹_› _ _|exact St.tw ‹_›|exact zG|exact zJ|exact zH _) (by first|exact I64.of (by omega)|assumption)).mono ?_;rintro e w' ⟨rfl,_⟩)|(go_at_call 46;refine(zh ‹_›).mono ?_;rintro e w' ⟨rfl,rfl⟩)|(go_at_call 48;refine(zx _ _ (W64.lo (by first|assumption|exact St.gw ‹_› _ _|exact St.tw ‹_›|exact zG|exact zJ|exact zH _)) (W64.hi (by first|assumption|exact St.gw ‹_› _ _|exact St.tw ‹_›|exact zG|exact zJ|exact zH _))).mono ?_;rintro e w' ⟨rfl,rfl⟩));go_ret;exact⟨rfl,by assumption⟩
  ·have hb2:(nmF A c.m top 2==0)=false:=by simpa using hb
   rw[if_neg (fun h=>hb h.1)];clear hb;go_enter Tryz.func24,Tryz.ntmps24;go_wp2_with (first|(go_at_call 78;refine(kat_c ‹_›).mono ?_;rintro e w' ⟨rfl,_⟩)|(go_at_call 67;refine(zv ‹_› _ _ _ (by first|assumption|exact St.gw ‹_› _ _|exact St.tw ‹_›|exact zG|exact zJ|exact zH _) (by first|exact I64.of (by omega)|assumption) (by first|assumption|exact St.gw ‹_› _ _|exact St.tw ‹_›|exact zG|exact zJ|exact zH _)).mono ?_;rintro e w' ⟨rfl,_⟩)|(go_at_call 62;refine(zb _ _ (by omega) (by omega)).mono ?_;rintro e w' ⟨rfl,rfl⟩)|(go_at_call 52;refine(zU ‹_› _ _ (by first|assumption|exact St.gw ‹_› _ _|exact St.tw ‹_›|exact zG|exact zJ|exact zH _) (by first|exact I64.of (by omega)|assumption)).mono ?_;rintro e w' ⟨rfl,_⟩)|(go_at_call 46;refine(zh ‹_›).mono ?_;rintro e w' ⟨rfl,rfl⟩)|(go_at_call 48;refine(zx _ _ (W64.lo (by first|assumption|exact St.gw ‹_› _ _|exact St.tw ‹_›|exact zG|exact zJ|exact zH _)) (W64.hi (by first|assumption|exact St.gw ‹_› _ _|exact St.tw ‹_›|exact zG|exact zJ|exact zH _))).mono ?_;rintro e w' ⟨rfl,rfl⟩));go_ret;exact⟨rfl,by assumption⟩
def growN(A:Ar)(m:Nat)(to seg:Int):Nat→Ar
 |0=>A
 |k+1=>stF (growN A m to seg k) m to (2+k) (gtF (growN A m to seg k) m seg (2+k))
def grownF(A:Ar)(m:Nat)(seg need:Int):Ar×Option Int:=
 match(segF A m (gtF A m seg 0) (min 238 (max (need+nmF A m seg 1) (2*rmF A m seg)))).2 with
 |none=>((segF A m (gtF A m seg 0) (min 238 (max (need+nmF A m seg 1) (2*rmF A m seg)))).1,none)
 |some x=>(stF (growN (segF A m (gtF A m seg 0) (min 238 (max (need+nmF A m seg 1) (2*rmF A m seg)))).1 m x seg (nmF A m seg 1).toNat) m x 1 (smW (nmF A m seg 1)),some x)
theorem segF_w(wd:A.Wd){m:Nat}{prev room x:Int}(h:(segF A m prev room).2=some x):W64 x:=by
 unfold segF at h;cases ho:(makeF A m 15 (2+room)).2 with
 |none=>rw[ho]at h;cases h
 |some y=>
  rw[ho]at h;simp at h;exact h▸(makeF_wd wd m 15 (2+room)).2 y ho
set_option maxHeartbeats 1000000 in
theorem kgrown_c(h:St w0 w c A top last)(seg need:Int)(hs:W64 seg)(n0:0≤need)(n1:need≤1000)(u0:0≤nmF A c.m seg 1)(u1:nmF A c.m seg 1≤1000):Calls Tryz.prog 101 #[.pointer (some ⟨c.kb,0,none⟩),.int .u64 seg,.int .i64 need] w fun e w'=>e=.returned (zM (grownF A c.m seg need).2)∧St w0 w' c (grownF A c.m seg need).1 top last:=by
 have rb0:0≤rmF A c.m seg:=by unfold rmF;omega
 have rb1:rmF A c.m seg≤9007199254740992:=by have:=szF_b h.a.wd (m:=c.m) hs;unfold rmF;omega
 obtain⟨u,hu⟩: ∃u:Nat,nmF A c.m seg 1=(u:Int):=⟨(nmF A c.m seg 1).toNat,by omega⟩;have H:=Lib.hid h;have HS:=Lib.hid hs;have hgw:=h.gw seg 0;have CU:=Lib.hid (kused_c h seg hs);have CG:=Lib.hid (fun w1 (h1:St w0 w1 c A top last)=>zU h1 seg 0 hs (I64.of (by omega)));have CR:=Lib.hid (fun w1 (h1:St w0 w1 c A top last)=>kroom_c h1 seg hs);rw[hu]at CU;obtain⟨sz,hsz⟩: ∃sz,sz=min 238 (max (need+(u:Int)) (2*rmF A c.m seg)):=⟨_,rfl⟩;have CS:=Lib.hid (fun w1 (h1:St w0 w1 c A top last)=>ksegment_c h1 (gtF A c.m seg 0) sz hgw (by omega) (by omega))
 have GR:Hid (grownF A c.m seg need=match(segF A c.m (gtF A c.m seg 0) sz).2 with
  |none=>((segF A c.m (gtF A c.m seg 0) sz).1,none)
  |some x=>(stF (growN (segF A c.m (gtF A c.m seg 0) sz).1 c.m x seg u) c.m x 1 (smW (u:Int)),some x)):=Lib.hid (by unfold grownF;rw[hu,←hsz];rfl)
 have SW:Hid (∀x,(segF A c.m (gtF A c.m seg 0) sz).2=some x→W64 x):=Lib.hid (fun x hx=>segF_w h.a.wd hx);rw[hu]at u0 u1;generalize rmF A c.m seg=r at*;generalize gtF A c.m seg 0=gw at*;have u1':u≤1000:=by omega
 have q:(¬need+(u:Int)<2*r∧need+(u:Int)<238∧sz=need+(u:Int))∨(¬need+(u:Int)<2*r∧¬need+(u:Int)<238∧sz=238)∨(need+(u:Int)<2*r∧2*r<238∧sz=2*r)∨(need+(u:Int)<2*r∧¬2*r<238∧sz=238):=by omega
 clear h hs hu hsz;cases ho:(segF A c.m gw sz).2 with
 |none=>
  rw[ho]at GR CS;rw[GR.out];simp only[zM]at CS;clear ho GR SW;generalize (segF A c.m gw sz).1=A1 at*;rcases q with⟨q1,q2,rfl⟩|⟨q1,q2,rfl⟩|⟨q1,q2,rfl⟩|⟨q1,q2,rfl⟩
  all_goals
   go_enter Tryz.func101,Tryz.ntmps101;go_wp2_with fail;refine CU.out.mono ?_;rintro e w1 ⟨rfl,h1⟩;go_wp2_with fail;refine(CG.out _ h1).mono ?_;rintro e w2 ⟨rfl,h2⟩;go_wp2_with fail;refine(CR.out _ h2).mono ?_;rintro e w3 ⟨rfl,h3⟩;go_wp2_with fail;refine(CS.out _ h3).mono ?_;rintro e w4 ⟨rfl,h4⟩;clear CU CG CR CS h1 h2 h3;go_wp2;go_ret2;exact⟨rfl,h4⟩
 |some x=>
  rw[ho]at GR CS;rw[GR.out];simp only[zM]at CS;have hx:=Lib.hid (SW.out x ho);clear ho GR SW;generalize (segF A c.m gw sz).1=A1 at*;rcases q with⟨q1,q2,rfl⟩|⟨q1,q2,rfl⟩|⟨q1,q2,rfl⟩|⟨q1,q2,rfl⟩
  all_goals
   go_enter Tryz.func101,Tryz.ntmps101;go_wp2_with fail;refine CU.out.mono ?_;rintro e w1 ⟨rfl,h1⟩;go_wp2_with fail;refine(CG.out _ h1).mono ?_;rintro e w2 ⟨rfl,h2⟩;go_wp2_with fail;refine(CR.out _ h2).mono ?_;rintro e w3 ⟨rfl,h3⟩;go_wp2_with fail;refine(CS.out _ h3).mono ?_;rintro e w4 ⟨rfl,h4⟩;clear CU CG CR CS h1 h2 h3;have h4:Hid (St w0 w4 c (growN A1 c.m x seg 0) top last):=Lib.hid h4;go_wp2_with fail;go_loopw [35] (fun y wr=> ∃k:Nat,k≤u∧y=.int .i64 (k:Int)∧Hid (St w0 wr c (growN A1 c.m x seg k) top last)) (fun y _=>u-(intOf y).toNat)
   case atStart=>exact⟨0,Nat.zero_le _,rfl,h4⟩
   case round=>
    obtain⟨k,hk,rfl,hS⟩:=hrel;clear h4;by_cases hlt:k<u
    ·have CG:=Lib.hid (zU hS.out seg (2+(k:Int)) HS.out (I64.of (by omega)));have CT:=Lib.hid (fun w1 (h1:St w0 w1 c (growN A1 c.m x seg k) top last)=>zv h1 x (2+(k:Int)) (gtF (growN A1 c.m x seg k) c.m seg (2+(k:Int))) hx.out (I64.of (by omega)) (h1.gw _ _));have FIN:Hid (∀w2,St w0 w2 c (stF (growN A1 c.m x seg k) c.m x (2+(k:Int)) (gtF (growN A1 c.m x seg k) c.m seg (2+(k:Int)))) top last→St w0 w2 c (growN A1 c.m x seg (k+1)) top last):=Lib.hid (fun w2 h=>h);go_wp2_with fail;refine CG.out.mono ?_;rintro e w5 ⟨rfl,h5⟩;go_wp2_with fail;refine(CT.out _ h5).mono ?_;rintro e w6 ⟨rfl,h6⟩;have h6:=Lib.hid h6;go_wp2;go_roundw
     case rel=>exact⟨k+1,by omega,by go_num,Lib.hid (FIN.out _ h6.out)⟩
     case measure=>simp[intOf];omega
    ·have hku:k=u:=by omega
     subst hku;have CT:=Lib.hid (fun w1 (h1:St w0 w1 c (growN A1 c.m x seg k) top last)=>zv h1 x 1 (smW (k:Int)) hx.out (I64.of (by omega)) (zH _));have h4:=hS.out;go_wp2_with (first|(go_at_call 62;refine(zb _ _ (by omega) (by omega)).mono ?_;rintro e w' ⟨rfl,rfl⟩)|(go_at_call 67;refine(CT.out _ h4).mono ?_;rintro e w' ⟨rfl,h7⟩));go_ret2;exact⟨rfl,h7⟩
end
end Go.Proofs.YtghkahcogphomaaGreat
