/- Fibers: a part of the walk. No condition. -/
import Derived.Test.YtghkahcogphomaaGreatQk04
set_option linter.all false
namespace Go.Proofs.YtghkahcogphomaaGreat
section
open Go.ChangeShapes Go.WideShapes Go.RowKit
variable{w:World}{hb b wb lb:Nat}{A:Ar}{m:Nat}
def GetAny(w:World)(y:Int)(e:Ending)(w':World):Prop:= ∃r,e=.returned (.tuple #[.int .u64 y,.int .i64 r])∧w=w'
theorem get_any(w:World)(hA:ArAt w b wb lb A)(ok:A.Ok m)(I:Int)(i:Nat)(hI:I=i):
 Calls Tryz.prog 115 #[.pointer (some ⟨b,0,none⟩),.int .i64 I] w (GetAny w (A.wd i)):=by
 subst hI;by_cases h:i<m*256
 ·exact(get_yes w hA ok i h).mono fun e w' ⟨h1,h2⟩=>⟨0,h1,h2⟩
 ·refine(get_no w hA ok (i:Int) (.inr (by omega))).mono fun e w' ⟨h1,h2⟩=>⟨141, ?_,h2⟩
  rw[h1];have:A.wd i=0:=by unfold Ar.wd;rw[List.getElem?_eq_none (by rw[ok.wl];omega)];rfl
  rw[this]
theorem fresh_le(ok:A.Ok m)(n:Int){k:Nat}(h:(A.fresh m n).2=some k):k≤1048576:=by
 have m2:=ok.m2;have s1:=ok.c1;have s2:=ok.c2;unfold Ar.fresh at h;split at h
 ·simp at h
 ·unfold Ar.freshA at h;split at h
  ·simp at h;omega
  ·split at h
   ·rename_i q hq
    have:=(zw _ _ _ hq).1;simp at h;omega
   ·simp at h
def copyW(A:Ar)(a k:Nat):Nat→Ar
 |0=>A
 |i+1=>(copyW A a k i).set (k+i) ((copyW A a k i).wd (a+i))
theorem copyW_ok(ok:A.Ok m)(a k i:Nat):(copyW A a k i).Ok m:=by
 induction i with
 |zero=>exact ok
 |succ i ih=>exact ih.set _ _
def moveF(A:Ar)(m:Nat)(x:Int):Ar×Option Int:=
 match hAt A m x with
 |none=>(A,none)
 |some h=>if 0<h.pins∨240<h.n then(A,none)else
  match(A.fresh m ((h.n:Int)+1)).2 with
  |none=>((A.fresh m ((h.n:Int)+1)).1,none)
  |some k=>((copyW (A.fresh m ((h.n:Int)+1)).1 h.a k (h.n+1)).set h.a (mkW 7 k),some (mkW 1 k))
set_option maxHeartbeats 1000000 in
theorem omove_no(w:World)(hH:HeAt w hb b wb lb A)(ok:A.Ok m)(wd:A.Wd)(x:Int)(h0:0≤x)(h1:x<18446744073709551616)(h: ∀h,hAt A m x=some h→0<h.pins∨240<h.n):
 Calls Tryz.prog 124 #[.pointer (some ⟨hb,0,none⟩),.int .u64 x] w fun e w'=>e=.returned (.tuple #[.int .u64 0,.bool false])∧Fr [] w w':=by
 have CA:=Lib.hid (at_c w hH ok wd x h0 h1);cases ho:hAt A m x with
 |none=>
  rw[ho]at CA;clear hH ok ho h;go_enter Tryz.func124,Tryz.ntmps124;go_wp2_with fail;refine CA.out.mono ?_;rintro e w1 ⟨rfl,hF⟩;simp only[hdVal];go_wp2;go_ret2;exact⟨rfl,hF.alloc _⟩
 |some h'=>
  have hh:=h h' ho;rw[ho]at CA;by_cases hp:0<h'.pins
  ·clear hH ok ho h hh;go_enter Tryz.func124,Tryz.ntmps124;go_wp2_with fail;refine CA.out.mono ?_;rintro e w1 ⟨rfl,hF⟩;simp only[hdVal];go_wp2;go_ret2;exact⟨rfl,hF.alloc _⟩
  ·have hp0:h'.pins=0:=by omega
   have hn:240<h'.n:=by omega
   have HP0:=Lib.hid hp0;clear hH ok ho h hh hp hp0;go_enter Tryz.func124,Tryz.ntmps124;go_wp2_with fail;refine CA.out.mono ?_;rintro e w1 ⟨rfl,hF⟩;simp only[hdVal];rw[HP0.out];go_wp2;go_ret2;exact⟨rfl,hF.alloc _⟩
set_option maxHeartbeats 1000000 in
theorem omove_none(w:World)(hH:HeAt w hb b wb lb A)(ok:A.Ok m)(wd:A.Wd)(x:Int)(h0:0≤x)(h1:x<18446744073709551616)(h:Hd)(ho:hAt A m x=some h)(hp:h.pins=0)(hn:h.n≤240)(hf:(A.fresh m ((h.n:Int)+1)).2=none):
 Calls Tryz.prog 124 #[.pointer (some ⟨hb,0,none⟩),.int .u64 x] w (HDone hb b wb lb w (A.fresh m ((h.n:Int)+1)).1 (zM none)):=by
 simp only[zM];have CA:=Lib.hid (at_c w hH ok wd x h0 h1);rw[ho]at CA;have HH:=Lib.hid hH;have OK:=Lib.hid ok;have HF:=Lib.hid hf;have HP0:=Lib.hid hp;clear hH ok ho hf hp;go_enter Tryz.func124,Tryz.ntmps124;go_wp2_with fail;refine CA.out.mono ?_;rintro e w1 ⟨rfl,hF⟩;simp only[hdVal];rw[HP0.out];have H1:=Lib.hid (HH.out.keep hF);have c1:=H1.out.cell;have q1:=zF H1.out.p;have H2:=Lib.hid ((H1.out.keep ((Fr.refl [] _).alloc (.cells #[.int .i64 h.kind,.int .i64 0,.int .i64 h.n] 166))).keep (Fr.refl [] _).drew);have F2:=Lib.hid (((hF.alloc (.cells #[.int .i64 h.kind,.int .i64 0,.int .i64 h.n] 166))).drew);have ew:IntKind.i64.wrap ((h.n:Int)+1)=(h.n:Int)+1:=IntWalk.i64_in _ (by omega);go_wp2
 go_region_with (go_at_call 128;refine(fresh_c _ H2.out.ar OK.out _).mono ?_;rintro e w2 ⟨rfl,hA2,hF2⟩;rw[HF.out];simp only[optVal];have D:Hid (HDone hb b wb lb w (A.fresh m ((h.n:Int)+1)).1 (.tuple #[.int .u64 0,.bool false]) (.returned (.tuple #[.int .u64 0,.bool false])) w2):=Lib.hid ⟨rfl,H2.out.arena hF2 (by have:=HH.out.n1;have:=HH.out.n3;simp;omega) hA2,(F2.out.mono (by simp)).trans hF2 (by simp)⟩;clear hA2 hF2)
 all_goals
  go_wp2;go_ret2;exact D.out
set_option maxHeartbeats 2000000 in
theorem omove_some(w:World)(hH:HeAt w hb b wb lb A)(ok:A.Ok m)(wd:A.Wd)(x:Int)(h0:0≤x)(h1:x<18446744073709551616)(h:Hd)(ho:hAt A m x=some h)(hp:h.pins=0)(hn:h.n≤240)(k:Nat)(hf:(A.fresh m ((h.n:Int)+1)).2=some k):
 Calls Tryz.prog 124 #[.pointer (some ⟨hb,0,none⟩),.int .u64 x] w (HDone hb b wb lb w ((copyW (A.fresh m ((h.n:Int)+1)).1 h.a k (h.n+1)).set h.a (mkW 7 k)) (zM (some (mkW 1 k)))):=by
 simp only[zM];have CA:=Lib.hid (at_c w hH ok wd x h0 h1);obtain⟨p1,_,_,_,_,_,_⟩:=hAt_bd wd h0 ho;have m2:=ok.m2;rw[ho]at CA;have kle:=fresh_le ok _ hf;have HH:=Lib.hid hH;have OK:=Lib.hid ok;have OK1:=Lib.hid (ok.fresh ((h.n:Int)+1));have HF:=Lib.hid hf;have HP0:=Lib.hid hp
 have O7:Hid (bits BinOp.or IntKind.u64 ((k:Int)*8) 7=mkW 7 k):=Lib.hid (by
  rw[bits_join .u64 64 (by decide) wraps_u64 3 _ _ (by omega) (by omega) (by omega) (by omega) (by omega) (by omega)];unfold mkW;omega)
 clear hH ok ho hf hp;go_enter Tryz.func124,Tryz.ntmps124;go_wp2_with fail;refine CA.out.mono ?_;rintro e w1 ⟨rfl,hF⟩;simp only[hdVal];rw[HP0.out];have H1:=Lib.hid (HH.out.keep hF);have c1:=H1.out.cell;have q1:=zF H1.out.p;have qb:=zF H1.out.ar.hb;have ql:=zF H1.out.ar.hl;have H2:=Lib.hid ((H1.out.keep ((Fr.refl [] _).alloc (.cells #[.int .i64 h.kind,.int .i64 0,.int .i64 h.n] 166))).keep (Fr.refl [] _).drew);have F2:=Lib.hid (((hF.alloc (.cells #[.int .i64 h.kind,.int .i64 0,.int .i64 h.n] 166))).drew);have ew:IntKind.i64.wrap ((h.n:Int)+1)=(h.n:Int)+1:=IntWalk.i64_in _ (by omega);have BX:Hid (blk (w1.alloc (.cells #[.int .i64 h.kind,.int .i64 0,.int .i64 h.n] 166)).drew w1.heap.size=some (.cells #[.int .i64 h.kind,.int .i64 0,.int .i64 h.n] 166 (0,0))):=Lib.hid (by rw[blk_drew,zB,if_pos rfl]);go_wp2
 go_region_with (go_at_call 128;refine(fresh_c _ H2.out.ar OK.out _).mono ?_;rintro e w2 ⟨rfl,hA2,hF2⟩;rw[HF.out];simp only[optVal];have H3:Hid (HeAt w2 hb b wb lb (A.fresh m ((h.n:Int)+1)).1):=Lib.hid (H2.out.arena hF2 (by have:=HH.out.n1;have:=HH.out.n3;simp;omega) hA2);have F3:Hid (Fr [b,wb,lb] w w2):=Lib.hid ((F2.out.mono (by simp)).trans hF2 (by simp));have B3:Hid (blk w2 w1.heap.size=some (.cells #[.int .i64 h.kind,.int .i64 0,.int .i64 h.n] 166 (0,0))):=Lib.hid (hF2.at BX.out (by simp;omega));have c3:=H3.out.cell;have c4:w2.cell? ⟨w1.heap.size,2,none⟩=some (.int .i64 h.n):=zA B3.out (i:=2) rfl;clear hA2 hF2)
 all_goals
  obtain⟨A1,hA1e⟩: ∃A1,A1=(A.fresh m ((h.n:Int)+1)).1:=⟨_,rfl⟩;rw[←hA1e]at H3 OK1;have HE2:Hid (∀w4,HeAt w4 hb b wb lb ((copyW A1 h.a k (h.n+1)).set h.a (mkW 7 k))→Fr [b,wb,lb] w w4→HDone hb b wb lb w ((copyW (A.fresh m ((h.n:Int)+1)).1 h.a k (h.n+1)).set h.a (mkW 7 k)) (.tuple #[.int .u64 (mkW 1 k),.bool true]) (.returned (.tuple #[.int .u64 (mkW 1 k),.bool true])) w4):=Lib.hid (fun w4 h4 f4=>⟨rfl,by rw[←hA1e];exact h4,f4⟩);clear hA1e HF BX B3 c1 H1 H2 F2 HH OK CA;go_wp2_with fail;go_loopw [48] (fun x wr=> ∃i:Nat,i≤h.n+1∧x=.int .i64 i∧Hid (HeAt wr hb b wb lb (copyW A1 h.a k i))∧Fr [b,wb,lb] w wr) (fun x _=>h.n+1-(intOf x).toNat)
  case atStart=>exact⟨0,by omega,rfl,H3,F3.out⟩
  case round=>
   obtain⟨i,hi,rfl,hH,hF5⟩:=hrel;clear c3 c4;have c5:=hH.out.cell;have OK3:=Lib.hid (copyW_ok OK1.out h.a k i);by_cases hlt:i<h.n+1
   ·go_wp2_with fail;refine(get_any _ hH.out.ar OK3.out _ (h.a+i) (by omega)).mono ?_;rintro e w' ⟨r0,rfl,rfl⟩;go_wp2_with fail;refine(set_any _ hH.out.ar OK3.out _ (k+i) (by omega) _).mono ?_;rintro e w4 ⟨r,rfl,hA4,hF4⟩;have H4:Hid (HeAt w4 hb b wb lb (copyW A1 h.a k (i+1))):=Lib.hid (hH.out.arena hF4 (by simpa using hH.out.n2) hA4);have F4:Fr [b,wb,lb] w w4:=hF5.trans hF4 (by simp);clear hA4 hF4;go_wp2;go_roundw
    case rel=>exact⟨i+1,by omega,by go_num,H4,F4⟩
    case measure=>simp[intOf];omega
   ·have hin:i=h.n+1:=by omega
    subst hin;have o7:=O7.out;go_wp2_with fail;refine(set_any _ hH.out.ar OK3.out _ h.a rfl _).mono ?_;rintro e w4 ⟨r,rfl,hA4,hF4⟩;have D:=Lib.hid (HE2.out w4 (hH.out.arena hF4 (by simpa using hH.out.n2) hA4) (hF5.trans hF4 (by simp)));clear hA4 hF4;go_wp2_with (go_at_call 122;refine(place_c _ _).mono ?_;rintro e w' ⟨rfl,rfl⟩);go_ret2;exact D.out
theorem omove_c(w:World)(hH:HeAt w hb b wb lb A)(ok:A.Ok m)(wd:A.Wd)(x:Int)(h0:0≤x)(h1:x<18446744073709551616):
 Calls Tryz.prog 124 #[.pointer (some ⟨hb,0,none⟩),.int .u64 x] w (HDone hb b wb lb w (moveF A m x).1 (zM (moveF A m x).2)):=by
 unfold moveF;cases ho:hAt A m x with
 |none=>
  refine(omove_no w hH ok wd x h0 h1 (by rw[ho];simp)).mono ?_;rintro e w' ⟨rfl,hF⟩;exact⟨rfl,hH.keep hF,hF.mono (by simp)⟩
 |some h=>
  simp only[];by_cases hc:0<h.pins∨240<h.n
  ·rw[if_pos hc];refine(omove_no w hH ok wd x h0 h1 (by rw[ho];intro h' he;simp at he;subst he;exact hc)).mono ?_;rintro e w' ⟨rfl,hF⟩;exact⟨rfl,hH.keep hF,hF.mono (by simp)⟩
  ·rw[if_neg hc];cases hf:(A.fresh m ((h.n:Int)+1)).2 with
   |none=>exact omove_none w hH ok wd x h0 h1 h ho (by omega) (by omega) hf
   |some k=>exact omove_some w hH ok wd x h0 h1 h ho (by omega) (by omega) k hf
theorem makeF_ok(ok:A.Ok m)(kind n:Int):(makeF A m kind n).1.Ok m:=by
 unfold makeF;split
 ·exact ok
 ·split
  ·exact ok.alloc _
  ·exact fillW_ok ((ok.alloc _).set _ _) _ _ _
theorem setF_ok(ok:A.Ok m)(x i v:Int):(setF A m x i v).1.Ok m:=by
 unfold setF;split
 ·exact ok
 ·split
  ·exact ok
  ·exact ok.set _ _
theorem moveF_ok(ok:A.Ok m)(x:Int):(moveF A m x).1.Ok m:=by
 unfold moveF;split
 ·exact ok
 ·split
  ·exact ok
  ·split
   ·exact ok.fresh _
   ·exact(copyW_ok (ok.fresh _) _ _ _).set _ _
def hx1:Ar:=(makeF (Ar.new 2) 2 0 2).1
end
section
def un(l:List (Bool×Bool)):Nat:=l.countP fun x=> !x.1
theorem tk_claimed(l:List (Bool×Bool))(f k i:Nat)(hi:i<l.length):tk (claimed l f k) i=if f≤i∧i<k then true else tk l i:=by
 simp only[tk,claimed_get];simp only[List.getElem?_eq_getElem hi,Option.map_some,Option.getD_some];split<;>rfl
theorem find_none1(l:List (Bool×Bool))(i:Nat)(h:find l i 1=none): ∀k,i≤k→k<l.length→tk l k=true:=by
 unfold find at h;generalize hn:l.length-i=n at h
 induction n generalizing i with
 |zero=>intro k a b;omega
 |succ n ih=>
  simp only[findF]at h;rw[if_pos (by omega)]at h;split at h
  ·simp at h
  ·rename_i hm
   have hl:=hole_le l i (by omega);have ht:=hole_test l i i (Nat.le_refl _) hl.2.1;have hh:hole l i=i:=by omega
   rw[show max (hole l i) (i+1)=i+1 by omega]at h;intro k a b;by_cases hk:k=i
   ·subst hk;by_cases hx:tk l k=false
    ·have:=ht.2 ⟨by omega,rfl,hx⟩;omega
    ·simpa using hx
   ·exact ih (i+1) (by omega) h k (by omega) b
theorem find_skip1(l:List (Bool×Bool))(i f t:Nat)(h:find l i 1=some (f,t)): ∀k,i≤k→k<f→tk l k=true:=by
 unfold find at h;generalize hn:l.length-i=n at h
 induction n generalizing i with
 |zero=>simp[findF]at h
 |succ n ih=>
  simp only[findF]at h;rw[if_pos (by omega)]at h;split at h
  ·simp at h;intro k a b;omega
  ·rename_i hm
   have hl:=hole_le l i (by omega);have ht:=hole_test l i i (Nat.le_refl _) hl.2.1;have hh:hole l i=i:=by omega
   rw[show max (hole l i) (i+1)=i+1 by omega]at h;intro k a b;by_cases hk:k=i
   ·subst hk;by_cases hx:tk l k=false
    ·have:=ht.2 ⟨by omega,rfl,hx⟩;omega
    ·simpa using hx
   ·exact ih (i+1) (by omega) h k (by omega) b
theorem hole_free(l:List (Bool×Bool))(f k:Nat)(h1:f≤k)(h2:k<hole l f):k<l.length∧k/16=f/16∧tk l k=false:=
 (hole_test l f k h1 (Nat.le_of_lt h2)).1 h2
theorem freeIn_add(l:List (Bool×Bool))(o a c:Nat):freeIn l o (a+c)=freeIn l o a+freeIn l (o+a) c:=by
 unfold freeIn;rw[List.take_add,List.countP_append,List.drop_drop]
structure RunOk(m:Nat)(l:List (Bool×Bool))(G K:Nat→Bool)(f t:Nat):Prop where
 blk:f<t→f/256=(t-1)/256
 bnd:t≤m*256
 tak: ∀i,f≤i→i<t→tk l (i/16)=true
 giv: ∀i,f≤i→i<t→G i=false
 kep: ∀i,f≤i→i<t→K (i/16)=false
def Apart(f t f' t':Nat):Prop:= ∀i,f≤i→i<t→f'≤i→i<t'→False
structure Inv(m:Nat)(l:List (Bool×Bool))(G K:Nat→Bool)(f1 t1 f2 t2 f3 t3:Nat):Prop where
 r1:RunOk m l G K f1 t1
 r2:RunOk m l G K f2 t2
 r3:RunOk m l G K f3 t3
 d12:Apart f1 t1 f2 t2
 d13:Apart f1 t1 f3 t3
 d23:Apart f2 t2 f3 t3
 gt: ∀i,G i=true→i<m*256∧tk l (i/16)=true
 kt: ∀i,K i=true→i<m*16∧tk l i=true
theorem Apart.symm{f t f' t':Nat}(h:Apart f t f' t'):Apart f' t' f t:=fun i a b c d=>h i c d a b
theorem Inv.swap12{m:Nat}{l:List (Bool×Bool)}{G K:Nat→Bool}{f1 t1 f2 t2 f3 t3:Nat}(h:Inv m l G K f1 t1 f2 t2 f3 t3):Inv m l G K f2 t2 f1 t1 f3 t3:=
 ⟨h.r2,h.r1,h.r3,h.d12.symm,h.d23,h.d13,h.gt,h.kt⟩
theorem Inv.swap13{m:Nat}{l:List (Bool×Bool)}{G K:Nat→Bool}{f1 t1 f2 t2 f3 t3:Nat}(h:Inv m l G K f1 t1 f2 t2 f3 t3):Inv m l G K f3 t3 f2 t2 f1 t1:=
 ⟨h.r3,h.r2,h.r1,h.d23.symm,h.d13.symm,h.d12.symm,h.gt,h.kt⟩
def plus(G:Nat→Bool)(a b:Nat):Nat→Bool:=fun i=>G i||decide (a≤i∧i<b)
theorem Inv.take{m:Nat}{l:List (Bool×Bool)}{G K:Nat→Bool}{f1 t1 f2 t2 f3 t3:Nat}(h:Inv m l G K f1 t1 f2 t2 f3 t3)(n:Nat)(hn:f1+n≤t1):
 Inv m l (plus G f1 (f1+n)) K (f1+n) t1 f2 t2 f3 t3:=by
 refine⟨⟨?_,h.r1.bnd, ?_, ?_, ?_⟩,⟨h.r2.blk,h.r2.bnd,h.r2.tak, ?_,h.r2.kep⟩,⟨h.r3.blk,h.r3.bnd,h.r3.tak, ?_,h.r3.kep⟩, ?_, ?_,h.d23, ?_,h.kt⟩
 ·intro a;have:=h.r1.blk (by omega);omega
 ·intro i a b;exact h.r1.tak i (by omega) b
 ·intro i a b;simp only[plus,h.r1.giv i (by omega) b];simp;omega
 ·intro i a b;exact h.r1.kep i (by omega) b
 ·intro i a b;simp only[plus,h.r2.giv i a b,Bool.false_or,decide_eq_false_iff_not];intro hc;exact h.d12 i hc.1 (by omega) a b
 ·intro i a b;simp only[plus,h.r3.giv i a b,Bool.false_or,decide_eq_false_iff_not];intro hc;exact h.d13 i hc.1 (by omega) a b
 ·intro i a b c d;exact h.d12 i (by omega) b c d
 ·intro i a b c d;exact h.d13 i (by omega) b c d
 ·intro i hi;simp only[plus,Bool.or_eq_true,decide_eq_true_eq]at hi;rcases hi with hi|hi
  ·exact h.gt i hi
  ·have:=h.r1.bnd;exact⟨by omega,h.r1.tak i hi.1 (by omega)⟩
theorem tk_out(l:List (Bool×Bool))(i:Nat)(h:l.length≤i):tk l i=true:=by simp[tk,h]
theorem tk_claimed'(l:List (Bool×Bool))(f k i:Nat):tk (claimed l f k) i=if f≤i∧i<k then true else tk l i:=by
 by_cases hi:i<l.length
 ·exact tk_claimed l f k i hi
 ·rw[tk_out _ _ (by rw[zo];omega),tk_out _ _ (by omega)];simp
theorem Inv.fresh{m:Nat}{l:List (Bool×Bool)}{G K:Nat→Bool}{f1 t1 f2 t2 f3 t3:Nat}(h:Inv m l G K f1 t1 f2 t2 f3 t3)(f t:Nat)(hft:f<t)(ht:t≤m*16)
 (hfree: ∀i,f≤i→i<t→tk l i=false) (hb:f/16=(t-1)/16):Inv m (claimed l f t) G K (f*16) (t*16) f2 t2 f3 t3:=by
 have mono: ∀i,tk l i=true→tk (claimed l f t) i=true:=fun i hi=>by rw[tk_claimed'];split<;>simp_all
 have old: ∀i,tk l i=true→¬(f≤i∧i<t):=fun i hi hc=>by rw[hfree i hc.1 hc.2]at hi;simp at hi
 refine⟨⟨?_,by omega, ?_, ?_, ?_⟩,⟨h.r2.blk,h.r2.bnd,fun i a b=>mono _ (h.r2.tak i a b),h.r2.giv,h.r2.kep⟩,⟨h.r3.blk,h.r3.bnd,fun i a b=>mono _ (h.r3.tak i a b),h.r3.giv,h.r3.kep⟩, ?_, ?_,h.d23, ?_, ?_⟩
 ·intro _;omega
 ·intro i a b;rw[tk_claimed',if_pos (by omega)]
 ·intro i a b;cases hg:G i with
  |false=>rfl
  |true=>exact absurd (show f≤i/16∧i/16<t by omega) (old _ (h.gt i hg).2)
 ·intro i a b;cases hg:K (i/16)with
  |false=>rfl
  |true=>exact absurd (show f≤i/16∧i/16<t by omega) (old _ (h.kt _ hg).2)
 ·intro i a b c d;exact absurd (show f≤i/16∧i/16<t by omega) (old _ (h.r2.tak i c d))
 ·intro i a b c d;exact absurd (show f≤i/16∧i/16<t by omega) (old _ (h.r3.tak i c d))
 ·intro i hi;exact⟨(h.gt i hi).1,mono _ (h.gt i hi).2⟩
 ·intro i hi;exact⟨(h.kt i hi).1,mono _ (h.kt i hi).2⟩
theorem Inv.congr{m:Nat}{l l':List (Bool×Bool)}{G K:Nat→Bool}{f1 t1 f2 t2 f3 t3:Nat}(h:Inv m l G K f1 t1 f2 t2 f3 t3)(he: ∀i,tk l' i=tk l i):Inv m l' G K f1 t1 f2 t2 f3 t3:=by
 have ro: ∀{f t},RunOk m l G K f t→RunOk m l' G K f t:=fun r=>⟨r.blk,r.bnd,fun i a b=>by rw[he];exact r.tak i a b,r.giv,r.kep⟩
 exact⟨ro h.r1,ro h.r2,ro h.r3,h.d12,h.d13,h.d23,fun i hi=>by rw[he];exact h.gt i hi,fun i hi=>by rw[he];exact h.kt i hi⟩
theorem Inv.none{m:Nat}{l:List (Bool×Bool)}{K:Nat→Bool}(hk: ∀i,K i=true→i<m*16∧tk l i=true):Inv m l (fun _=>false) K 0 0 0 0 0 0:=by
 have ro:RunOk m l (fun _=>false) K 0 0:=⟨fun h=>by omega,by omega,fun i _ h=>by omega,fun _ _ _=>rfl,fun i _ h=>by omega⟩;exact⟨ro,ro,ro,fun i _ h=>by omega,fun i _ h=>by omega,fun i _ h=>by omega,fun i h=>by simp at h,hk⟩
theorem freeIn_full(l:List (Bool×Bool))(o n:Nat)(h:freeIn l o n=n)(hl:o+n≤l.length): ∀i,o≤i→i<o+n→tk l i=false:=by
 induction n with
 |zero=>intro i a b;omega
 |succ n ih=>
  have hs:=freeIn_step l o n (by omega);have hle:=freeIn_le l o n;intro i a b;by_cases ht:tk l (o+n)=true
  ·rw[if_pos ht]at hs;omega
  ·rw[if_neg ht]at hs;by_cases hi:i=o+n
   ·subst hi;simpa using ht
   ·exact ih (by omega) (by omega) i a (by omega)
structure AInv(A:Ar)(m:Nat)(G K M:List Bool):Prop where
 ok:A.Ok m
 inv:Inv m A.lines (fun i=>G[i]?.getD false) (fun i=>K[i]?.getD false) A.sf A.st A.gf A.gt A.cf A.ct
 gl:G.length=m*256
 kl:K.length=m*16
 ml:M.length=m*16
 mm: ∀i,M[i]?.getD false=true→mk' A.lines i=true
def ones(G:List Bool)(a b:Nat):List Bool:=G.mapIdx fun i x=>if a≤i∧i<b then true else x
theorem ones_get(G:List Bool)(a b i:Nat):(ones G a b)[i]? =(G[i]?).map fun x=>if a≤i∧i<b then true else x:=by simp[ones,List.getElem?_mapIdx]
theorem len_ones(G:List Bool)(a b:Nat):(ones G a b).length=G.length:=by simp[ones]
theorem ones_fun(G:List Bool)(a b:Nat)(h:b≤G.length):(fun i=>(ones G a b)[i]?.getD false)=plus (fun i=>G[i]?.getD false) a b:=by
 funext i
 simp only[ones_get,plus];by_cases hi:i<G.length
 ·simp only[List.getElem?_eq_getElem hi,Option.map_some,Option.getD_some];by_cases hc:a≤i∧i<b<;>simp[hc]
 ·simp only[List.getElem?_eq_none (show G.length≤i by omega),Option.map_none,Option.getD_none]
  simp;omega
structure Gave(A':Ar)(m:Nat)(G K M:List Bool)(n N:Nat):Prop where
 inv:AInv A' m (ones G n (n+N)) K M
 n1:1≤N
 n2:N≤256
 bnd:n+N≤m*256
 blk:n/256=(n+N-1)/256
 free: ∀i,n≤i→i<n+N→G[i]?.getD false=false∧K[i/16]?.getD false=false
theorem gave_mk{A':Ar}{m:Nat}{G K M:List Bool}{l:List (Bool×Bool)}{f t f2 t2 f3 t3:Nat}(N:Nat)(ok:A'.Ok m)(h:Inv m l (fun i=>G[i]?.getD false) (fun i=>K[i]?.getD false) f t f2 t2 f3 t3)
 (hl:A'.lines=l) (gl:G.length=m*256) (kl:K.length=m*16) (ml:M.length=m*16) (mm: ∀i,M[i]?.getD false=true→mk' l i=true)
 (hN1:1≤N) (hN2:N≤256) (hN:f+N≤t)
 (he: ∀G',Inv m l G' (fun i=>K[i]?.getD false) (f+N) t f2 t2 f3 t3→Inv m l G' (fun i=>K[i]?.getD false) A'.sf A'.st A'.gf A'.gt A'.cf A'.ct):Gave A' m G K M f N:=by
 subst hl;have hb:=h.r1.bnd;refine⟨⟨ok, ?_,by rw[len_ones];exact gl,kl,ml,mm⟩,hN1,hN2,by omega, ?_,fun i a b=>⟨h.r1.giv i a (by omega),h.r1.kep i a (by omega)⟩⟩
 ·rw[ones_fun _ _ _ (by omega)];exact he _ (h.take N hN)
 ·have:=h.r1.blk (by omega);omega
theorem mk_claimed(l:List (Bool×Bool))(f t i:Nat):mk' (claimed l f t) i=mk' l i:=by
 simp only[mk',claimed_get];cases l[i]? with
 |none=>rfl
 |some x=>simp only[Option.map_some,Option.getD_some];split<;>rfl
def GaveOr(r:Ar×Option Nat)(m:Nat)(G K M:List Bool)(N:Nat):Prop:=
 match r.2 with
 |some n=>Gave r.1 m G K M n N
 |none=>AInv r.1 m G K M
theorem AInv.alloc{A:Ar}{m:Nat}{G K M:List Bool}(h:AInv A m G K M)(N:Int):
 GaveOr (A.alloc m N) m G K M N.toNat:=by
 have ok':=h.ok.alloc N;obtain⟨ok,inv,gl,kl,ml,mm⟩:=h;have hll:=ok.ll;have g1:=ok.s1;have g2:=ok.g1;unfold Ar.alloc at ok'⊢;by_cases hb:N<1∨256<N
 ·rw[if_pos hb];exact⟨ok,inv,gl,kl,ml,mm⟩
 ·rw[if_neg hb]at ok'⊢;by_cases hg:16<N
  ·rw[if_pos hg]at ok'⊢;unfold Ar.greatA at ok'⊢;by_cases hs:N.toNat≤A.gt-A.gf
   ·rw[if_pos hs]at ok'⊢;exact gave_mk N.toNat ok' inv.swap12 rfl gl kl ml mm (by omega) (by omega) (by omega) fun _ h=>h.swap12
   ·rw[if_neg hs]at ok'⊢;cases hq:zV A.lines m with
    |some q=>
     rw[hq]at ok';obtain⟨q1,q2⟩:=zw _ _ _ hq;have hfree:=freeIn_full A.lines (q*16) 16 q2 (by omega);have hi:=inv.swap12.fresh (q*16) ((q+1)*16) (by omega) (by omega) (fun i a b=>hfree i a (by omega)) (by omega);exact gave_mk N.toNat ok' hi rfl gl kl ml (fun i hm=>by rw[mk_claimed];exact mm i hm) (by omega) (by omega) (by omega) fun _ h=>h.swap12
    |none=>
     rw[hq]at ok';simp only[]at ok'⊢;cases hf:find A.lines 0 ((N.toNat+15)/16:Nat)with
     |none=>exact⟨ok,inv,gl,kl,ml,mm⟩
     |some ft=>
      obtain⟨f,t⟩:=ft;rw[hf]at ok';obtain⟨p1,p2,p3,p4,p5⟩:=find_spec _ _ _ (by omega) _ _ hf;have hfree:=fun i a b=>hole_free A.lines f i a (by rw[←p5];exact b)
      have hi:=inv.swap12.fresh f t p2 (by omega) (fun i a b=>(hfree i a b).2.2) (by have:=(hfree (t-1) (by omega) (by omega)).2.1;omega);exact gave_mk N.toNat ok' hi rfl gl kl ml (fun i hm=>by rw[mk_claimed];exact mm i hm) (by omega) (by omega) (by omega) fun _ h=>h.swap12
  ·rw[if_neg hg]at ok'⊢;unfold Ar.smallA at ok'⊢;by_cases hs:N.toNat≤A.st-A.sf
   ·rw[if_pos hs]at ok'⊢;exact gave_mk N.toNat ok' inv rfl gl kl ml mm (by omega) (by omega) (by omega) fun _ h=>h
   ·rw[if_neg hs]at ok'⊢;cases hf:find A.lines A.next 1 with
    |none=>exact⟨ok,inv,gl,kl,ml,mm⟩
    |some ft=>
     obtain⟨f,t⟩:=ft;rw[hf]at ok';obtain⟨p1,p2,p3,p4,p5⟩:=find_spec _ _ _ (by omega) _ _ hf;have hfree:=fun i a b=>hole_free A.lines f i a (by rw[←p5];exact b)
     have hi:=inv.fresh f t p2 (by omega) (fun i a b=>(hfree i a b).2.2) (by have:=(hfree (t-1) (by omega) (by omega)).2.1;omega);exact gave_mk N.toNat ok' hi rfl gl kl ml (fun i hm=>by rw[mk_claimed];exact mm i hm) (by omega) (by omega) (by omega) fun _ h=>h
theorem AInv.fresh{A:Ar}{m:Nat}{G K M:List Bool}(h:AInv A m G K M)(N:Int):
 GaveOr (A.fresh m N) m G K M N.toNat:=by
 have ok':=h.ok.fresh N;obtain⟨ok,inv,gl,kl,ml,mm⟩:=h;have hll:=ok.ll;have g1:=ok.c1;unfold Ar.fresh at ok'⊢;by_cases hb:N<1∨256<N
 ·rw[if_pos hb];exact⟨ok,inv,gl,kl,ml,mm⟩
 ·rw[if_neg hb]at ok'⊢;unfold Ar.freshA at ok'⊢;by_cases hs:N.toNat≤A.ct-A.cf
  ·rw[if_pos hs]at ok'⊢;exact gave_mk N.toNat ok' inv.swap13 rfl gl kl ml mm (by omega) (by omega) (by omega) fun _ h=>h.swap13
  ·rw[if_neg hs]at ok'⊢;cases hq:zV A.lines m with
   |some q=>
    rw[hq]at ok';obtain⟨q1,q2⟩:=zw _ _ _ hq;have hfree:=freeIn_full A.lines (q*16) 16 q2 (by omega);have hi:=inv.swap13.fresh (q*16) ((q+1)*16) (by omega) (by omega) (fun i a b=>hfree i a (by omega)) (by omega);exact gave_mk N.toNat ok' hi rfl gl kl ml (fun i hm=>by rw[mk_claimed];exact mm i hm) (by omega) (by omega) (by omega) fun _ h=>h.swap13
   |none=>exact⟨ok,inv,gl,kl,ml,mm⟩
theorem tk_markedL(l:List (Bool×Bool))(f k i:Nat):tk (markedL l f k) i=tk l i:=by
 simp only[tk,markedL_get];cases l[i]? with
 |none=>rfl
 |some x=>simp only[Option.map_some,Option.getD_some];split<;>rfl
theorem mk_markedL(l:List (Bool×Bool))(f k i:Nat):mk' (markedL l f k) i=if f≤i∧i<k then true else mk' l i:=by
 simp only[mk',markedL_get];cases l[i]? with
 |none=>simp
 |some x=>simp only[Option.map_some,Option.getD_some];split<;>rfl
theorem AInv.mark{A:Ar}{m:Nat}{G K M:List Bool}(h:AInv A m G K M)(a N:Nat)(h1:1≤N)(h2:a+N≤m*256):
 AInv (A.mark m (a:Int) (N:Int)) m G K (ones M (a/16) ((a+N-1)/16+1)):=by
 have ok':=h.ok.mark (a:Int) (N:Int);obtain⟨ok,inv,gl,kl,ml,mm⟩:=h
 have hlast:lastOf m (a:Int) (N:Int)=((a+N-1:Nat):Int):=by
  unfold lastOf;split<;>omega
 unfold Ar.mark at ok'⊢;rw[if_neg (by rw[hlast];omega)]at ok'⊢;rw[hlast]at ok'⊢;rw[show(max (a:Int) 0).toNat=a from by omega]at ok'⊢;simp only[Int.toNat_natCast]at ok'⊢;refine⟨ok',inv.congr fun i=>tk_markedL _ _ _ _,gl,kl,by rw[len_ones];exact ml,fun i hi=> ?_⟩;simp only[Ar.markL];rw[mk_markedL];split
 ·rfl
 ·rename_i hc
  refine mm i ?_;rw[ones_get]at hi;cases hx:M[i]? with
  |none=>rw[hx]at hi;simp at hi
  |some x=>rw[hx]at hi;simpa[hc]using hi
theorem AInv.sweep{A:Ar}{m:Nat}{G K M:List Bool}(h:AInv A m G K M):AInv A.sweep m (List.replicate (m*256) false) M (List.replicate (m*16) false):=by
 have ok':=h.ok.sweep;obtain⟨ok,inv,gl,kl,ml,mm⟩:=h
 have hg:(fun i:Nat=>(List.replicate (m*256) false)[i]?.getD false)=fun _=>false:=by
  funext i;rw[List.getElem?_replicate];split<;>rfl
 refine⟨ok', ?_,by simp,ml,by simp,fun i hi=> ?_⟩
 ·rw[hg];refine Inv.none fun i hi=> ?_
  have hl:i<M.length:=by
   rcases Nat.lt_or_ge i M.length with h|h
   ·exact h
   ·rw[List.getElem?_eq_none h]at hi;simp at hi
  refine⟨by omega, ?_⟩;have:=mm i hi;simp only[Ar.sweep,tk,List.getElem?_map];have hl2:i<A.lines.length:=by rw[ok.ll];omega
  simp only[mk',List.getElem?_eq_getElem hl2,Option.getD_some]at this;simp[hl2,this]
 ·rw[List.getElem?_replicate]at hi;split at hi<;>simp at hi
theorem AInv.start{m:Nat}(h1:1≤m)(h2:m≤4096):AInv (Ar.new m) m (List.replicate (m*256) false) (List.replicate (m*16) false) (List.replicate (m*16) false):=by
 have hz: ∀n i:Nat,(List.replicate n false)[i]?.getD false=false:=fun n i=>by rw[List.getElem?_replicate];split<;>rfl
 refine⟨Ar.new_ok m h1 h2, ?_,by simp,by simp,by simp,fun i hi=>by rw[hz]at hi;simp at hi⟩;simp only[hz];exact Inv.none fun i hi=>by simp at hi
end
section
variable{A A':Ar}{m:Nat}{G G':List Bool}
structure Ob where
 a:Nat
 kind:Nat
 pins:Nat
 fs:List Int
def Ob.e(o:Ob):Nat:=o.a+o.fs.length+1
theorem Ob.ee(o:Ob):o.e=o.a+o.fs.length+1:=rfl
structure ObOk(A:Ar)(m:Nat)(G:List Bool)(o:Ob):Prop where
 k:o.kind<32
 p:o.pins≤7
 n:o.fs.length≤240
 b:o.e≤m*256
 hd:A.wd o.a=hdW o.kind o.pins o.fs.length
 fd: ∀(i:Nat) (x:Int),o.fs[i]? =some x→A.wd (o.a+1+i)=x
 gv: ∀i:Nat,o.a≤i→i<o.e→G[i]?.getD false=true
def fz(n:Nat):List Bool:=List.replicate n false
structure HInv(A:Ar)(m:Nat)(G:List Bool)(L:List Ob):Prop where
 inv:AInv A m G (fz (m*16)) (fz (m*16))
 wd:A.Wd
 ob: ∀(j:Nat) (o:Ob),L[j]? =some o→ObOk A m G o
 ap: ∀(i j:Nat) (o p:Ob),i≠j→L[i]? =some o→L[j]? =some p→Apart o.a o.e p.a p.e
theorem wd_set(A:Ar)(q:Nat)(v:Int)(i:Nat):(A.set q v).wd i=if i=q∧q<A.words.length then v else A.wd i:=by
 unfold Ar.wd Ar.set;simp only;by_cases hi:i=q
 ·subst hi;by_cases hl:i<A.words.length
  ·rw[List.getElem?_set_self hl];simp[hl]
  ·rw[List.getElem?_eq_none (by simp;omega),List.getElem?_eq_none (by omega)];simp[hl]
 ·rw[List.getElem?_set_ne (by omega)];simp[hi]
theorem Ar.Wd.set(h:A.Wd)(q:Nat)(v:Int)(h0:0≤v)(h1:v<18446744073709551616):(A.set q v).Wd:=by
 intro x hx;simp only[Ar.set]at hx;rcases List.mem_or_eq_of_mem_set hx with hx|rfl
 ·exact h x hx
 ·exact⟨h0,h1⟩
theorem AInv.set{K M:List Bool}(h:AInv A m G K M)(q:Nat)(v:Int):AInv (A.set q v) m G K M:=by
 obtain⟨ok,inv,gl,kl,ml,mm⟩:=h;exact⟨ok.set q v,inv,gl,kl,ml,mm⟩
theorem len_set(A:Ar)(q:Nat)(v:Int):(A.set q v).words.length=A.words.length:=by simp[Ar.set]
theorem alloc_words(A:Ar)(m:Nat)(n:Int):(A.alloc m n).1.words=A.words:=by
 unfold Ar.alloc;split
 ·rfl
 ·split
  ·unfold Ar.greatA;split
   ·rfl
   ·cases zV A.lines m with
    |some q=>rfl
    |none=>simp only[];cases find A.lines 0 ((n.toNat+15)/16:Nat)<;>rfl
  ·unfold Ar.smallA;split
   ·rfl
   ·cases find A.lines A.next 1<;>rfl
theorem fresh_words(A:Ar)(m:Nat)(n:Int):(A.fresh m n).1.words=A.words:=by
 unfold Ar.fresh;split
 ·rfl
 ·unfold Ar.freshA;split
  ·rfl
  ·cases zV A.lines m<;>rfl
theorem Ar.Wd.of{A A':Ar}(h:A.Wd)(he:A'.words=A.words):A'.Wd:=fun x hx=>h x (by rwa[he]at hx)
theorem zy{A A':Ar}(he:A'.words=A.words)(i:Nat):A'.wd i=A.wd i:=by unfold Ar.wd;rw[he]
theorem mk1(a:Nat)(h:a<1048576):mkW 1 a=(a:Int)*8+1:=by unfold mkW;omega
end
end Go.Proofs.YtghkahcogphomaaGreat
