/- Fibers: a part of the walk. No condition. -/
import Derived.Test.YtghkahcogphomaaGreatQk03
set_option linter.all false
namespace Go.Proofs.YtghkahcogphomaaGreat
section
open Go.ChangeShapes Go.WideShapes Go.RowKit
variable{w:World}{hb b wb lb:Nat}{A:Ar}{m:Nat}
theorem hAt_bd(wd:A.Wd){x:Int}{h:Hd}(h0:0≤x)(hh:hAt A m x=some h):h.a<m*256∧h.kind<32∧h.pins<8∧h.n<9007199254740992∧x%8=1∧x/8=h.a∧A.wd h.a=hdW h.kind h.pins h.n:=by
 unfold hAt at hh;split at hh
 ·rename_i hc
  obtain⟨c1,c2,c3⟩:=hc;have:=wd.at (x/8).toNat;simp only[Option.some.injEq]at hh;subst hh;simp only[hdW];refine⟨by omega,by omega,by omega,by omega,c1,by omega,by omega⟩
 ·simp at hh
def getF(A:Ar)(m:Nat)(x i:Int):Int×Int:=
 match hAt A m x with
 |none=>(0,151)
 |some h=>if i<0∨(h.n:Int)≤i∨(m:Int)*256≤h.a+1+i then(0,151)else(A.wd (h.a+1+i.toNat),0)
theorem oget_c(w:World)(hH:HeAt w hb b wb lb A)(ok:A.Ok m)(wd:A.Wd)(x i:Int)(h0:0≤x)(h1:x<18446744073709551616)(bi: -9223372036854775808≤i∧i≤9223372036854775807):
 Calls Tryz.prog 90 #[.pointer (some ⟨hb,0,none⟩),.int .u64 x,.int .i64 i] w fun e w'=>e=.returned (.tuple #[.int .u64 (getF A m x i).1,.int .i64 (getF A m x i).2])∧Fr [] w w':=by
 have CA:=Lib.hid (at_c w hH ok wd x h0 h1);have HH:=Lib.hid hH;have OK:=Lib.hid ok;have m1:=ok.m1;have m2:=ok.m2;cases ho:hAt A m x with
 |none=>
  rw[ho]at CA;have HG:Hid (getF A m x i=(0,151)):=Lib.hid (by unfold getF;rw[ho]);clear hH ok ho;rw[HG.out];go_enter Tryz.func90,Tryz.ntmps90;go_wp2_with fail;refine CA.out.mono ?_;rintro e w1 ⟨rfl,hF⟩;simp only[hdVal];go_wp2;go_ret2;exact⟨rfl,hF.alloc _⟩
 |some h=>
  rw[ho]at CA;obtain⟨p1,p2,p3,p4,_,_,_⟩:=hAt_bd wd h0 ho;by_cases hlo:i<0
  ·have HG:Hid (getF A m x i=(0,151)):=Lib.hid (by unfold getF;rw[ho];simp only[];rw[if_pos (.inl hlo)]);clear hH ok ho;rw[HG.out];go_enter Tryz.func90,Tryz.ntmps90;go_wp2_with fail;refine CA.out.mono ?_;rintro e w1 ⟨rfl,hF⟩;simp only[hdVal];go_wp2;go_ret2;exact⟨rfl,hF.alloc _⟩
  by_cases hhi:(h.n:Int)≤i
  ·have HG:Hid (getF A m x i=(0,151)):=Lib.hid (by unfold getF;rw[ho];simp only[];rw[if_pos (.inr (.inl hhi))]);clear hH ok ho;rw[HG.out];go_enter Tryz.func90,Tryz.ntmps90;go_wp2_with fail;refine CA.out.mono ?_;rintro e w1 ⟨rfl,hF⟩;simp only[hdVal];go_wp2;go_ret2;exact⟨rfl,hF.alloc _⟩
  by_cases hout:(m:Int)*256≤h.a+1+i
  ·have HG:Hid (getF A m x i=(0,151)):=Lib.hid (by unfold getF;rw[ho];simp only[];rw[if_pos (.inr (.inr hout))]);have c0:=hH.cell;clear hH ok ho;rw[HG.out];go_enter Tryz.func90,Tryz.ntmps90;go_wp2_with fail;refine CA.out.mono ?_;rintro e w1 ⟨rfl,hF⟩;simp only[hdVal];have H1:=Lib.hid (HH.out.keep hF);have c1:=H1.out.cell;have q1:=zF H1.out.p;clear c0;go_wp2_with fail;refine(get_no _ ((H1.out.keep ((Fr.refl [] _).alloc _)).ar) OK.out _ (.inr hout)).mono ?_;rintro e w' ⟨rfl,rfl⟩;go_wp2;go_ret2;exact⟨rfl,hF.alloc _⟩
  ·have HG:Hid (getF A m x i=(A.wd (h.a+1+i.toNat),0)):=Lib.hid (by unfold getF;rw[ho];simp only[];rw[if_neg (by omega)]);have c0:=hH.cell;have hidx:Hid ((h.a:Int)+1+i=((h.a+1+i.toNat:Nat):Int)):=Lib.hid (by omega);have hin:h.a+1+i.toNat<m*256:=by omega
   clear hH ok ho;rw[HG.out];go_enter Tryz.func90,Tryz.ntmps90;go_wp2_with fail;refine CA.out.mono ?_;rintro e w1 ⟨rfl,hF⟩;simp only[hdVal];have H1:=Lib.hid (HH.out.keep hF);have c1:=H1.out.cell;have q1:=zF H1.out.p;clear c0;go_wp2_with fail;rw[hidx.out];refine(get_yes _ ((H1.out.keep ((Fr.refl [] _).alloc _)).ar) OK.out _ hin).mono ?_;rintro e w' ⟨rfl,rfl⟩;go_wp2;go_ret2;exact⟨rfl,hF.alloc _⟩
def setF(A:Ar)(m:Nat)(x i v:Int):Ar×Int:=
 match hAt A m x with
 |none=>(A,151)
 |some h=>if i<0∨(h.n:Int)≤i∨(m:Int)*256≤h.a+1+i then(A,151)else(A.set (h.a+1+i.toNat) v,0)
def HDone(hb b wb lb:Nat)(w:World)(A':Ar)(v:Value)(e:Ending)(w':World):Prop:=e=.returned v∧HeAt w' hb b wb lb A'∧Fr [b,wb,lb] w w'
theorem oset_c(w:World)(hH:HeAt w hb b wb lb A)(ok:A.Ok m)(wd:A.Wd)(x i v:Int)(h0:0≤x)(h1:x<18446744073709551616)(bi: -9223372036854775808≤i∧i≤9223372036854775807):
 Calls Tryz.prog 98 #[.pointer (some ⟨hb,0,none⟩),.int .u64 x,.int .i64 i,.int .u64 v] w (HDone hb b wb lb w (setF A m x i v).1 (.int .i64 (setF A m x i v).2)):=by
 have CA:=Lib.hid (at_c w hH ok wd x h0 h1);have HH:=Lib.hid hH;have OK:=Lib.hid ok;have m1:=ok.m1;have m2:=ok.m2;cases ho:hAt A m x with
 |none=>
  rw[ho]at CA;have HG:Hid (setF A m x i v=(A,151)):=Lib.hid (by unfold setF;rw[ho]);clear hH ok ho;rw[HG.out];go_enter Tryz.func98,Tryz.ntmps98;go_wp2_with fail;refine CA.out.mono ?_;rintro e w1 ⟨rfl,hF⟩;simp only[hdVal];go_wp2;go_ret;exact⟨rfl,HH.out.keep (hF.alloc _),(hF.alloc _).mono (by simp)⟩
 |some h=>
  rw[ho]at CA;obtain⟨p1,p2,p3,p4,_,_,_⟩:=hAt_bd wd h0 ho;by_cases hlo:i<0
  ·have HG:Hid (setF A m x i v=(A,151)):=Lib.hid (by unfold setF;rw[ho];simp only[];rw[if_pos (.inl hlo)]);clear hH ok ho;rw[HG.out];go_enter Tryz.func98,Tryz.ntmps98;go_wp2_with fail;refine CA.out.mono ?_;rintro e w1 ⟨rfl,hF⟩;simp only[hdVal];go_wp2;go_ret;exact⟨rfl,HH.out.keep (hF.alloc _),(hF.alloc _).mono (by simp)⟩
  by_cases hhi:(h.n:Int)≤i
  ·have HG:Hid (setF A m x i v=(A,151)):=Lib.hid (by unfold setF;rw[ho];simp only[];rw[if_pos (.inr (.inl hhi))]);clear hH ok ho;rw[HG.out];go_enter Tryz.func98,Tryz.ntmps98;go_wp2_with fail;refine CA.out.mono ?_;rintro e w1 ⟨rfl,hF⟩;simp only[hdVal];go_wp2;go_ret;exact⟨rfl,HH.out.keep (hF.alloc _),(hF.alloc _).mono (by simp)⟩
  by_cases hout:(m:Int)*256≤h.a+1+i
  ·have HG:Hid (setF A m x i v=(A,151)):=Lib.hid (by unfold setF;rw[ho];simp only[];rw[if_pos (.inr (.inr hout))]);have c0:=hH.cell;clear hH ok ho;rw[HG.out];go_enter Tryz.func98,Tryz.ntmps98;go_wp2_with fail;refine CA.out.mono ?_;rintro e w1 ⟨rfl,hF⟩;simp only[hdVal];have H1:=Lib.hid (HH.out.keep hF);have c1:=H1.out.cell;have q1:=zF H1.out.p;clear c0;go_wp2_with fail;refine(set_no _ ((H1.out.keep ((Fr.refl [] _).alloc _)).ar) OK.out _ v (.inr hout)).mono ?_;rintro e w' ⟨rfl,rfl⟩;go_wp2;go_ret;exact⟨rfl,HH.out.keep (hF.alloc _),(hF.alloc _).mono (by simp)⟩
  ·have HG:Hid (setF A m x i v=(A.set (h.a+1+i.toNat) v,0)):=Lib.hid (by unfold setF;rw[ho];simp only[];rw[if_neg (by omega)]);have c0:=hH.cell;have hidx:Hid ((h.a:Int)+1+i=((h.a+1+i.toNat:Nat):Int)):=Lib.hid (by omega);have hin:h.a+1+i.toNat<m*256:=by omega
   clear hH ok ho;rw[HG.out];go_enter Tryz.func98,Tryz.ntmps98;go_wp2_with fail;refine CA.out.mono ?_;rintro e w1 ⟨rfl,hF⟩;simp only[hdVal];have H1:=Lib.hid (HH.out.keep hF);have c1:=H1.out.cell;have q1:=zF H1.out.p;clear c0;go_wp2_with fail;rw[hidx.out];refine(set_yes _ ((H1.out.keep ((Fr.refl [] _).alloc _)).ar) OK.out _ v hin).mono ?_;rintro e w2 ⟨rfl,hA2,hF2⟩;have D:Hid (HDone hb b wb lb w (A.set (h.a+1+i.toNat) v) (.int .i64 0) (.returned (.int .i64 0)) w2):=Lib.hid ⟨rfl,(H1.out.keep ((Fr.refl [] _).alloc _)).arena hF2 (by simpa using H1.out.n2) hA2,((hF.alloc _).mono (by simp)).trans hF2 (by simp)⟩;clear hA2 hF2;go_wp2;go_ret;exact D.out
theorem okind_c(w:World)(hH:HeAt w hb b wb lb A)(ok:A.Ok m)(wd:A.Wd)(x:Int)(h0:0≤x)(h1:x<18446744073709551616):
 Calls Tryz.prog 103 #[.pointer (some ⟨hb,0,none⟩),.int .u64 x] w fun e w'=>e=.returned (.int .i64 (((hAt A m x).map fun h=>(h.kind:Int)).getD (-1)))∧Fr [] w w':=by
 have CA:=Lib.hid (at_c w hH ok wd x h0 h1);clear hH ok;cases ho:hAt A m x with
 |none=>
  rw[ho]at CA;clear ho;go_enter Tryz.func103,Tryz.ntmps103;go_wp2_with fail;refine CA.out.mono ?_;rintro e w1 ⟨rfl,hF⟩;simp only[hdVal];go_wp2;go_ret;exact⟨rfl,hF.alloc _⟩
 |some h=>
  rw[ho]at CA;clear ho;go_enter Tryz.func103,Tryz.ntmps103;go_wp2_with fail;refine CA.out.mono ?_;rintro e w1 ⟨rfl,hF⟩;simp only[hdVal];go_wp2;go_ret;exact⟨rfl,hF.alloc _⟩
theorem osize_c(w:World)(hH:HeAt w hb b wb lb A)(ok:A.Ok m)(wd:A.Wd)(x:Int)(h0:0≤x)(h1:x<18446744073709551616):
 Calls Tryz.prog 104 #[.pointer (some ⟨hb,0,none⟩),.int .u64 x] w fun e w'=>e=.returned (.int .i64 (((hAt A m x).map fun h=>(h.n:Int)).getD (-1)))∧Fr [] w w':=by
 have CA:=Lib.hid (at_c w hH ok wd x h0 h1);clear hH ok;cases ho:hAt A m x with
 |none=>
  rw[ho]at CA;clear ho;go_enter Tryz.func104,Tryz.ntmps104;go_wp2_with fail;refine CA.out.mono ?_;rintro e w1 ⟨rfl,hF⟩;simp only[hdVal];go_wp2;go_ret;exact⟨rfl,hF.alloc _⟩
 |some h=>
  rw[ho]at CA;clear ho;go_enter Tryz.func104,Tryz.ntmps104;go_wp2_with fail;refine CA.out.mono ?_;rintro e w1 ⟨rfl,hF⟩;simp only[hdVal];go_wp2;go_ret;exact⟨rfl,hF.alloc _⟩
theorem opinned_c(w:World)(hH:HeAt w hb b wb lb A)(ok:A.Ok m)(wd:A.Wd)(x:Int)(h0:0≤x)(h1:x<18446744073709551616):
 Calls Tryz.prog 127 #[.pointer (some ⟨hb,0,none⟩),.int .u64 x] w fun e w'=>e=.returned (.bool (((hAt A m x).map fun h=>decide (0<h.pins)).getD false))∧Fr [] w w':=by
 have CA:=Lib.hid (at_c w hH ok wd x h0 h1);clear hH ok;cases ho:hAt A m x with
 |none=>
  rw[ho]at CA;clear ho;go_enter Tryz.func127,Tryz.ntmps127;go_wp2_with fail;refine CA.out.mono ?_;rintro e w1 ⟨rfl,hF⟩;simp only[hdVal];go_wp2;go_ret;exact⟨rfl,hF.alloc _⟩
 |some h=>
  rw[ho]at CA;clear ho;go_enter Tryz.func127,Tryz.ntmps127;go_wp2_with fail;refine CA.out.mono ?_;rintro e w1 ⟨rfl,hF⟩;simp only[hdVal];go_wp2;go_ret;exact⟨ret_bool (by simp),hF.alloc _⟩
theorem word_c(w:World)(k p n:Int)(k0:0≤k)(k1:k<32)(p0:0≤p)(p1:p<8)(n0:0≤n)(n1:n<9007199254740992):
 Calls Tryz.prog 126 #[.agg #[.int .i64 k,.int .i64 p,.int .i64 n]] w fun e w'=>e=.returned (.int .u64 (hdW k p n))∧Fr [] w w':=by
 have e1:bits BinOp.or IntKind.i64 (n*256) (p*32)=n*256+p*32:=bits_join .i64 63 (by decide) wraps_i64 8 _ _ (by omega) (by omega) (by omega) (by omega) (by omega) (by omega);have e2:bits BinOp.or IntKind.i64 (n*256+p*32) k=n*256+p*32+k:=bits_join .i64 63 (by decide) wraps_i64 5 _ _ (by omega) (by omega) (by omega) (by omega) (by omega) (by omega);have e3:bits BinOp.or IntKind.u64 ((n*256+p*32+k)*8) 6=(n*256+p*32+k)*8+6:=bits_join .u64 64 (by decide) wraps_u64 3 _ _ (by omega) (by omega) (by omega) (by omega) (by omega) (by omega);go_enter Tryz.func126,Tryz.ntmps126;go_wp2;go_ret;exact⟨ret_int rfl,(Fr.refl _ _).alloc _⟩
theorem raw_c(w:World)(k:Int):Calls Tryz.prog 96 #[.int .i64 k] w fun e w'=>e=.returned (.bool (decide (16≤k∧k<32)))∧w=w':=by
 by_cases h:16≤k
 ·by_cases h2:k<32
  ·rw[decide_eq_true ⟨h,h2⟩];go_enter Tryz.func96,Tryz.ntmps96;go_wp2;go_ret;exact⟨ret_bool (by simp),rfl⟩
  ·rw[decide_eq_false (by omega)];go_enter Tryz.func96,Tryz.ntmps96;go_wp2;go_ret;exact⟨ret_bool (by simp),rfl⟩
 ·rw[decide_eq_false (by omega)];go_enter Tryz.func96,Tryz.ntmps96;go_wp2;go_ret;exact⟨ret_bool (by simp),rfl⟩
theorem oarena_c(w:World)(hH:HeAt w hb b wb lb A):Calls Tryz.prog 82 #[.pointer (some ⟨hb,0,none⟩)] w fun e w'=>e=.returned (.pointer (some ⟨b,0,none⟩))∧w=w':=by
 have c0:=hH.cell;clear hH;go_enter Tryz.func82,Tryz.ntmps82;go_wp2;go_ret;exact⟨rfl,rfl⟩
def NewHe(m:Nat)(w:World)(e:Ending)(w':World):Prop:=
 ∃hb b wb lb,e=.returned (.pointer (some ⟨hb,0,none⟩))∧HeAt w' hb b wb lb (Ar.new m)∧Fr [] w w'∧w.heap.size≤hb∧w.heap.size≤b∧w.heap.size≤wb∧w.heap.size≤lb
theorem onew_c(n:Int)(w:World):Calls Tryz.prog 60 #[.int .i64 n] w (NewHe (blocksOf n) w):=by
 go_enter Tryz.func60,Tryz.ntmps60;go_wp2_with fail;refine(new_c _ _).mono ?_;rintro e w1 ⟨b,wb,lb,rfl,A0,F0,h1,h2,h3⟩;have q1:=zF A0.hb;have q2:=zF A0.hw;have q3:=zF A0.hl;have s1:=F0.size
 have D:Hid (NewHe (blocksOf n) w (.returned (.pointer (some ⟨w1.heap.size,0,none⟩))) (w1.alloc (.cells #[.pointer (some ⟨b,0,none⟩)] 143))):=Lib.hid
  ⟨w1.heap.size,b,wb,lb,rfl,⟨by rw[zB,if_pos rfl],A0.fr ((Fr.refl [] _).alloc _) (by simp) (by simp) (by simp),by omega,by omega,by omega⟩,F0.alloc _,by omega,h1,h2,h3⟩
 clear A0 F0 h1 h2 h3 q1 q2 q3 s1;go_wp2;go_ret;exact D.out
def SetAny(b wb lb:Nat)(w:World)(A':Ar)(e:Ending)(w':World):Prop:= ∃r,e=.returned (.int .i64 r)∧ArAt w' b wb lb A'∧Fr [wb] w w'
theorem set_any(w:World)(hA:ArAt w b wb lb A)(ok:A.Ok m)(I:Int)(i:Nat)(hI:I=i)(v:Int):
 Calls Tryz.prog 117 #[.pointer (some ⟨b,0,none⟩),.int .i64 I,.int .u64 v] w (SetAny b wb lb w (A.set i v)):=by
 subst hI;by_cases h:i<m*256
 ·exact(set_yes w hA ok i v h).mono fun e w' ⟨h1,h2,h3⟩=>⟨0,h1,h2,h3⟩
 ·refine(set_no w hA ok (i:Int) v (.inr (by omega))).mono ?_;rintro e w' ⟨rfl,rfl⟩;refine⟨141,rfl, ?_,Fr.refl _ _⟩
  have:A.set i v=A:=by
   unfold Ar.set;rw[List.set_eq_of_length_le (by rw[ok.wl];omega)]
  rw[this];exact hA
theorem alloc_le(ok:A.Ok m)(n:Int){k:Nat}(h:(A.alloc m n).2=some k):k≤1048576:=by
 have m2:=ok.m2;have s1:=ok.s1;have s2:=ok.s2;have g1:=ok.g1;have g2:=ok.g2;have ll:=ok.ll;unfold Ar.alloc at h;split at h
 ·simp at h
 ·split at h
  ·unfold Ar.greatA at h;split at h
   ·simp at h;omega
   ·split at h
    ·rename_i q hq
     have:=(zw _ _ _ hq).1;simp at h;omega
    ·split at h
     ·simp at h
     ·rename_i f t hf
      obtain⟨p1,p2,p3,p4,p5⟩:=find_spec _ _ _ (by omega) _ _ hf;simp at h;omega
  ·unfold Ar.smallA at h;split at h
   ·simp at h;omega
   ·split at h
    ·simp at h
    ·rename_i f t hf
     obtain⟨p1,p2,p3,p4,p5⟩:=find_spec _ _ _ (by omega) _ _ hf;simp at h;omega
def fillW(A:Ar)(p:Nat)(v:Int):Nat→Ar
 |0=>A
 |k+1=>(fillW A p v k).set (p+k) v
theorem fillW_ok(ok:A.Ok m)(p:Nat)(v:Int)(k:Nat):(fillW A p v k).Ok m:=by
 induction k with
 |zero=>exact ok
 |succ k ih=>exact ih.set _ _
def ZD(kind:Int):Int:=if 16≤kind∧kind<32 then 0 else 45
def makeF(A:Ar)(m:Nat)(kind n:Int):Ar×Option Int:=
 if kind<0∨32≤kind∨n<0∨240<n then(A,none)else
 match(A.alloc m (n+1)).2 with
 |none=>((A.alloc m (n+1)).1,none)
 |some k=>(fillW (((A.alloc m (n+1)).1).set k (hdW kind 0 n)) (k+1) (ZD kind) n.toNat,some (mkW 1 k))
def zM:Option Int→Value
 |some x=> .tuple #[.int .u64 x,.bool true]
 |none=> .tuple #[.int .u64 0,.bool false]
theorem omake_bad(w:World)(ptr:Value)(kind n:Int)(h:kind<0∨32≤kind∨n<0∨240<n):
 Calls Tryz.prog 116 #[ptr,.int .i64 kind,.int .i64 n] w fun e w'=>e=.returned (zM none)∧w=w':=by
 simp only[zM];by_cases h1:kind<0
 ·clear h;go_enter Tryz.func116,Tryz.ntmps116;go_wp2;go_ret2;exact⟨rfl,rfl⟩
 by_cases h2:32≤kind
 ·clear h;go_enter Tryz.func116,Tryz.ntmps116;go_wp2;go_ret2;exact⟨rfl,rfl⟩
 by_cases h3:n<0
 ·clear h;go_enter Tryz.func116,Tryz.ntmps116;go_wp2;go_ret2;exact⟨rfl,rfl⟩
 ·have h4:240<n:=by omega
  clear h;go_enter Tryz.func116,Tryz.ntmps116;go_wp2;go_ret2;exact⟨rfl,rfl⟩
theorem omake_none(w:World)(hH:HeAt w hb b wb lb A)(ok:A.Ok m)(kind n:Int)(k0:0≤kind)(k1:kind<32)(n0:0≤n)(n1:n≤240)(ha:(A.alloc m (n+1)).2=none):
 Calls Tryz.prog 116 #[.pointer (some ⟨hb,0,none⟩),.int .i64 kind,.int .i64 n] w (HDone hb b wb lb w (A.alloc m (n+1)).1 (zM none)):=by
 have c0:=hH.cell;have CA:=Lib.hid (alloc_c w hH.ar ok (n+1));have HH:=Lib.hid hH;have HA:=Lib.hid ha;clear hH ok ha;simp only[zM];go_enter Tryz.func116,Tryz.ntmps116;go_wp2_with fail;refine CA.out.mono ?_;rintro e w1 ⟨rfl,hA1,hF1⟩;rw[HA.out];simp only[optVal];have D:Hid (HDone hb b wb lb w (A.alloc m (n+1)).1 (.tuple #[.int .u64 0,.bool false]) (.returned (.tuple #[.int .u64 0,.bool false])) w1):=Lib.hid ⟨rfl,HH.out.arena hF1 (by have:=HH.out.n1;have:=HH.out.n3;simp;omega) hA1,hF1.mono (by simp)⟩;clear hA1 hF1 c0;go_wp2;go_ret2;exact D.out
theorem single5:mkW 5 5=45:=by decide
set_option maxHeartbeats 1600000 in
theorem omake_some(w:World)(hH:HeAt w hb b wb lb A)(ok:A.Ok m)(kind n:Int)(k0:0≤kind)(k1:kind<32)(n0:0≤n)(n1:n≤240)(k:Nat)(ha:(A.alloc m (n+1)).2=some k):
 Calls Tryz.prog 116 #[.pointer (some ⟨hb,0,none⟩),.int .i64 kind,.int .i64 n] w (HDone hb b wb lb w (fillW (((A.alloc m (n+1)).1).set k (hdW kind 0 n)) (k+1) (ZD kind) n.toNat) (zM (some (mkW 1 k)))):=by
 have c0:=hH.cell;have CA:=Lib.hid (alloc_c w hH.ar ok (n+1));have HH:=Lib.hid hH;have HA:=Lib.hid ha;have kle:=alloc_le ok _ ha;have OK1:=Lib.hid (ok.alloc (n+1));obtain⟨N,rfl⟩:=Int.eq_ofNat_of_zero_le n0;simp only[Int.toNat_natCast];clear hH ok ha;simp only[zM];go_enter Tryz.func116,Tryz.ntmps116;go_wp2_with fail;refine CA.out.mono ?_;rintro e w1 ⟨rfl,hA1,hF1⟩;rw[HA.out];simp only[optVal];have H1:Hid (HeAt w1 hb b wb lb (A.alloc m ((N:Int)+1)).1):=Lib.hid (HH.out.arena hF1 (by have:=HH.out.n1;have:=HH.out.n3;simp;omega) hA1);have F1:Hid (Fr [b,wb,lb] w w1):=Lib.hid (hF1.mono (by simp));obtain⟨A1,hA1e⟩: ∃A1,A1=(A.alloc m ((N:Int)+1)).1:=⟨_,rfl⟩;have HE:=Lib.hid hA1e;rw[←hA1e]at H1 OK1;clear hA1e;clear hA1 hF1 c0 CA HA;have c1:=H1.out.cell;have HW:Hid (∀w2,Fr [] w1.drew w2→HeAt w2 hb b wb lb A1∧Fr [b,wb,lb] w w2):=Lib.hid (fun w2 h2=>⟨(H1.out.keep (Fr.refl [] _).drew).keep h2,(F1.out.trans ((Fr.refl [] _).drew.same h2) (by simp))⟩);go_wp2_with fail
 go_region_with (first|(go_at_call 126;refine(word_c _ _ _ _ (by omega) (by omega) (by omega) (by omega) (by omega) (by omega)).mono ?_;rintro e w2 ⟨rfl,hF2⟩;have H2:=Lib.hid (HW.out w2 hF2).1;have F2:=Lib.hid (HW.out w2 hF2).2;have c2:=H2.out.cell;clear hF2)|(go_at_call 117;refine(set_any _ H2.out.ar OK1.out _ k rfl _).mono ?_;rintro e w3 ⟨r,rfl,hA3,hF3⟩;have H3:Hid (HeAt w3 hb b wb lb (A1.set k (hdW kind 0 N))):=Lib.hid (H2.out.arena hF3 (by simpa using H2.out.n2) hA3);have F3:Hid (Fr [b,wb,lb] w w3):=Lib.hid (F2.out.trans hF3 (by simp));clear hA3 hF3))
 all_goals
  have c3:=H3.out.cell;have OK2:Hid ((A1.set k (hdW kind 0 N)).Ok m):=Lib.hid (OK1.out.set _ _);have HE2:Hid (∀w4,HeAt w4 hb b wb lb (fillW (A1.set k (hdW kind 0 N)) (k+1) (ZD kind) N)→Fr [b,wb,lb] w w4→HDone hb b wb lb w (fillW ((A.alloc m ((N:Int)+1)).1.set k (hdW kind 0 N)) (k+1) (ZD kind) N) (.tuple #[.int .u64 (mkW 1 k),.bool true]) (.returned (.tuple #[.int .u64 (mkW 1 k),.bool true])) w4):=Lib.hid (fun w4 h4 f4=>⟨rfl,by rw[←HE.out];exact h4,f4⟩);generalize A1.set k (hdW kind 0 N)=A2 at H3 OK2 HE2;clear H2 F2 c2 H1 F1 HE OK1 HW;by_cases hraw:16≤kind
  ·have hem:ZD kind=0:=by unfold ZD;rw[if_pos ⟨hraw,k1⟩]
   have HEM:=Lib.hid hem;clear hem;go_wp2_with (first|(go_at_call 71;refine(single_c _ _).mono ?_;rintro e w' ⟨rfl,rfl⟩)|(go_at_call 96;refine(raw_c _ _).mono ?_;rintro e w' ⟨rfl,rfl⟩));go_loopw [52] (fun x wr=> ∃i:Nat,i≤N∧x=.int .i64 i∧Hid (HeAt wr hb b wb lb (fillW A2 (k+1) 0 i))∧Fr [b,wb,lb] w wr) (fun x _=>N-(intOf x).toNat)
   case atStart=>exact⟨0,by omega,rfl,H3,F3.out⟩
   case round=>
    obtain⟨i,hi,rfl,hH,hF⟩:=hrel;by_cases hlt:i<N
    ·have c4:=hH.out.cell;have OK3:=Lib.hid (fillW_ok OK2.out (k+1) 0 i);clear c3;go_wp2_with fail;refine(set_any _ hH.out.ar OK3.out _ (k+1+i) (by omega) _).mono ?_;rintro e w4 ⟨r,rfl,hA4,hF4⟩;have H4:Hid (HeAt w4 hb b wb lb (fillW A2 (k+1) 0 (i+1))):=Lib.hid (hH.out.arena hF4 (by simpa using hH.out.n2) hA4);have F4:Fr [b,wb,lb] w w4:=hF.trans hF4 (by simp);clear hA4 hF4;go_wp2;go_roundw
     case rel=>exact⟨i+1,by omega,by go_num,H4,F4⟩
     case measure=>simp[intOf];omega
    ·have hiN:i=N:=by omega
     subst hiN;have D:=Lib.hid (HE2.out wr (by rw[HEM.out];exact hH.out) hF);clear c3;go_wp2_with (go_at_call 122;refine(place_c _ _).mono ?_;rintro e w' ⟨rfl,rfl⟩);go_ret2;exact D.out
  ·have hem:ZD kind=45:=by unfold ZD;rw[if_neg (by omega)]
   have HEM:=Lib.hid hem;clear hem;go_wp2_with (first|(go_at_call 71;refine(single_c _ _).mono ?_;rintro e w' ⟨rfl,rfl⟩;rw[single5])|(go_at_call 96;refine(raw_c _ _).mono ?_;rintro e w' ⟨rfl,rfl⟩));go_loopw [52] (fun x wr=> ∃i:Nat,i≤N∧x=.int .i64 i∧Hid (HeAt wr hb b wb lb (fillW A2 (k+1) 45 i))∧Fr [b,wb,lb] w wr) (fun x _=>N-(intOf x).toNat)
   case atStart=>exact⟨0,by omega,rfl,H3,F3.out⟩
   case round=>
    obtain⟨i,hi,rfl,hH,hF⟩:=hrel;by_cases hlt:i<N
    ·have c4:=hH.out.cell;have OK3:=Lib.hid (fillW_ok OK2.out (k+1) 45 i);clear c3;go_wp2_with fail;refine(set_any _ hH.out.ar OK3.out _ (k+1+i) (by omega) _).mono ?_;rintro e w4 ⟨r,rfl,hA4,hF4⟩;have H4:Hid (HeAt w4 hb b wb lb (fillW A2 (k+1) 45 (i+1))):=Lib.hid (hH.out.arena hF4 (by simpa using hH.out.n2) hA4);have F4:Fr [b,wb,lb] w w4:=hF.trans hF4 (by simp);clear hA4 hF4;go_wp2;go_roundw
     case rel=>exact⟨i+1,by omega,by go_num,H4,F4⟩
     case measure=>simp[intOf];omega
    ·have hiN:i=N:=by omega
     subst hiN;have D:=Lib.hid (HE2.out wr (by rw[HEM.out];exact hH.out) hF);clear c3;go_wp2_with (go_at_call 122;refine(place_c _ _).mono ?_;rintro e w' ⟨rfl,rfl⟩);go_ret2;exact D.out
theorem omake_c(w:World)(hH:HeAt w hb b wb lb A)(ok:A.Ok m)(kind n:Int):
 Calls Tryz.prog 116 #[.pointer (some ⟨hb,0,none⟩),.int .i64 kind,.int .i64 n] w (HDone hb b wb lb w (makeF A m kind n).1 (zM (makeF A m kind n).2)):=by
 unfold makeF;by_cases h:kind<0∨32≤kind∨n<0∨240<n
 ·rw[if_pos h];refine(omake_bad w _ kind n h).mono ?_;rintro e w' ⟨rfl,rfl⟩;exact⟨rfl,hH,Fr.refl _ _⟩
 ·rw[if_neg h];cases ha:(A.alloc m (n+1)).2 with
  |none=>exact omake_none w hH ok kind n (by omega) (by omega) (by omega) (by omega) ha
  |some k=>exact omake_some w hH ok kind n (by omega) (by omega) (by omega) (by omega) k ha
def movedF(A:Ar)(m:Nat)(x:Int):Option Int:=
 if x%8=1∧x/8<(m:Int)*256∧A.wd (x/8).toNat%8=7 then some (mkW 1 (A.wd (x/8).toNat/8))else none
set_option maxHeartbeats 2000000 in
theorem omoved_c(w:World)(hH:HeAt w hb b wb lb A)(ok:A.Ok m)(wd:A.Wd)(x:Int)(h0:0≤x)(h1:x<18446744073709551616):
 Calls Tryz.prog 110 #[.pointer (some ⟨hb,0,none⟩),.int .u64 x] w fun e w'=>e=.returned (zM (movedF A m x))∧Fr [] w w':=by
 have hwd:=wd.at (x/8).toNat;by_cases hx:x%8=1
 ·have c0:=hH.cell;have V1:=Lib.hid (val1 x hx);have HD:=Lib.hid (hH.keep (Fr.refl [] w).drew);have OK:=Lib.hid ok;have hbb:(x%8 !=1)=false:=by simpa using hx
  by_cases ha:x/8<(m:Int)*256
  ·have GY:=get_yes w.drew HD.out.ar OK.out (x/8).toNat (by omega);rw[show(((x/8).toNat:Nat):Int)=x/8 by omega]at GY;have GY:=Lib.hid GY;by_cases h7:A.wd (x/8).toNat%8=7
   ·have HM:Hid (movedF A m x=some (mkW 1 (A.wd (x/8).toNat/8))):=Lib.hid (by unfold movedF;rw[if_pos ⟨hx,ha,h7⟩]);rw[HM.out];simp only[zM]
    change Hid (Calls _ _ _ _ fun e w'=>e=.returned (.tuple #[.int .u64 (A.wd (x/8).toNat),.int .i64 0])∧w.drew=w')at GY
    obtain⟨y,hy⟩: ∃y,y=A.wd (x/8).toNat:=⟨_,rfl⟩;rw[←hy]at GY h7 hwd⊢;have h7b:(y%8 !=7)=false:=by simpa using h7
    have e7:=and7 y hwd.1 hwd.2;obtain⟨hw1,hw2⟩:=hwd;clear hy hH ok hx h7 HM;go_enter Tryz.func110,Tryz.ntmps110;go_wp2_with (go_at_call 48;refine(zx _ _ h0 h1).mono ?_;rintro e w' ⟨rfl,rfl⟩)
    go_region_with (first|(go_at_call 93;refine(value_c _ _ h0 h1).mono ?_;rintro e w' ⟨rfl,rfl⟩;rw[V1.out])|(go_at_call 115;refine GY.out.mono ?_;rintro e w' ⟨rfl,rfl⟩))
    all_goals
     go_wp2_with (go_at_call 122;refine(place_c _ _).mono ?_;rintro e w' ⟨rfl,rfl⟩);go_ret2;exact⟨rfl,(Fr.refl _ _).drew⟩
   ·have HM:Hid (movedF A m x=none):=Lib.hid (by unfold movedF;rw[if_neg (by omega)]);rw[HM.out];simp only[zM]
    change Hid (Calls _ _ _ _ fun e w'=>e=.returned (.tuple #[.int .u64 (A.wd (x/8).toNat),.int .i64 0])∧w.drew=w')at GY
    obtain⟨y,hy⟩: ∃y,y=A.wd (x/8).toNat:=⟨_,rfl⟩;rw[←hy]at GY h7 hwd;have h7b:(y%8 !=7)=true:=by simpa using h7
    have e7:=and7 y hwd.1 hwd.2;obtain⟨hw1,hw2⟩:=hwd;clear hy hH ok hx h7 HM;go_enter Tryz.func110,Tryz.ntmps110;go_wp2_with (go_at_call 48;refine(zx _ _ h0 h1).mono ?_;rintro e w' ⟨rfl,rfl⟩)
    go_region_with (first|(go_at_call 93;refine(value_c _ _ h0 h1).mono ?_;rintro e w' ⟨rfl,rfl⟩;rw[V1.out])|(go_at_call 115;refine GY.out.mono ?_;rintro e w' ⟨rfl,rfl⟩))
    all_goals
     go_wp2;go_ret2;exact⟨rfl,(Fr.refl _ _).drew⟩
  ·have HM:Hid (movedF A m x=none):=Lib.hid (by unfold movedF;rw[if_neg (by omega)]);rw[HM.out];simp only[zM];have GN:=Lib.hid (get_no w.drew HD.out.ar OK.out (x/8) (.inr (by omega)));clear hH ok hx HM hwd;go_enter Tryz.func110,Tryz.ntmps110;go_wp2_with (go_at_call 48;refine(zx _ _ h0 h1).mono ?_;rintro e w' ⟨rfl,rfl⟩)
   go_region_with (first|(go_at_call 93;refine(value_c _ _ h0 h1).mono ?_;rintro e w' ⟨rfl,rfl⟩;rw[V1.out])|(go_at_call 115;refine GN.out.mono ?_;rintro e w' ⟨rfl,rfl⟩))
   all_goals
    go_wp2;go_ret2;exact⟨rfl,(Fr.refl _ _).drew⟩
 ·have HM:Hid (movedF A m x=none):=Lib.hid (by unfold movedF;rw[if_neg (by omega)]);rw[HM.out];simp only[zM];have hbb:(x%8 !=1)=true:=by simpa using hx
  clear hH ok hwd HM;go_enter Tryz.func110,Tryz.ntmps110;go_wp2_with (go_at_call 48;refine(zx _ _ h0 h1).mono ?_;rintro e w' ⟨rfl,rfl⟩);go_ret2;exact⟨rfl,Fr.refl _ _⟩
end
end Go.Proofs.YtghkahcogphomaaGreat
