/- Fibers: a part of the walk. No condition. -/
import Derived.Test.YtghkahcogphomaaGreatQk01
set_option linter.all false
namespace Go.Proofs.YtghkahcogphomaaGreat
section
open Go.ChangeShapes Go.WideShapes Go.RowKit
variable{w:World}{b wb lb:Nat}{A:Ar}
def findF(l:List (Bool×Bool))(many:Int):Nat→Nat→Option (Nat×Nat)
 |0,_=>none
 |fuel+1,i=>if i<l.length then if many≤(hole l i:Int)-i then some (i,hole l i)else findF l many fuel (max (hole l i) (i+1))else none
def find(l:List (Bool×Bool))(from_:Nat)(many:Int):Option (Nat×Nat):=findF l many (l.length-from_) from_
theorem findF_fuel(l:List (Bool×Bool))(many:Int)(f g i:Nat)(hf:l.length-i≤f)(hg:l.length-i≤g):findF l many f i=findF l many g i:=by
 induction f generalizing g i with
 |zero=>
  cases g with
  |zero=>rfl
  |succ g=>simp only[findF];rw[if_neg (by omega)]
 |succ f ih=>
  cases g with
  |zero=>simp only[findF];rw[if_neg (by omega)]
  |succ g=>
   simp only[findF];by_cases h:i<l.length
   ·rw[if_pos h,if_pos h];split
    ·rfl
    ·exact ih g _ (by omega) (by omega)
   ·rw[if_neg h,if_neg h]
theorem find_end(l:List (Bool×Bool))(i:Nat)(many:Int)(h:l.length≤i):find l i many=none:=by
 unfold find;rw[show l.length-i=0 by omega];rfl
theorem find_yes(l:List (Bool×Bool))(i:Nat)(many:Int)(h:i<l.length)(hm:many≤(hole l i:Int)-i):find l i many=some (i,hole l i):=by
 unfold find;obtain⟨f,hf⟩: ∃f,l.length-i=f+1:=⟨l.length-i-1,by omega⟩;rw[hf];simp only[findF];rw[if_pos h,if_pos hm]
theorem find_next(l:List (Bool×Bool))(i:Nat)(many:Int)(h:i<l.length)(hm: ¬many≤(hole l i:Int)-i):find l i many=find l (max (hole l i) (i+1)) many:=by
 unfold find;obtain⟨f,hf⟩: ∃f,l.length-i=f+1:=⟨l.length-i-1,by omega⟩;rw[hf];simp only[findF];rw[if_pos h,if_neg hm];exact findF_fuel l many _ _ _ (by omega) (by omega)
def findVal:Option (Nat×Nat)→Value
 |some (i,k)=> .tuple #[.int .i64 i,.int .i64 k,.bool true]
 |none=> .tuple #[.int .i64 0,.int .i64 0,.bool false]
theorem find_c(w:World){m:Nat}(hA:ArAt w b wb lb A)(ok:A.Ok m)(f:Nat)(many:Int)(hf:f≤m*16)(hm1:1≤many)(hm2:many≤1048576):
 Calls Tryz.prog 131 #[.pointer (some ⟨b,0,none⟩),.int .i64 (f:Int),.int .i64 many] w fun e w'=>e=.returned (findVal (find A.lines f many))∧w=w':=by
 have h1:=ok.m1;have h2:=ok.m2;have hll:=Lib.hid ok.ll;have c1:=hA.c1;rw[ok.ll]at c1;have CH:=Lib.hid (fun k hk=>hole_c w hA ok k hk);clear hA ok;go_enter Tryz.func131,Tryz.ntmps131;go_wp2
 go_loop [9] (fun x=> ∃k:Nat,k≤m*16∧x=.int .i64 k∧Hid (find A.lines f many=find A.lines k many)) (fun x=>m*16-(intOf x).toNat)
 case atStart=>exact⟨f,hf,rfl,Lib.hid rfl⟩
 case round=>
  obtain⟨k,hk,rfl,hE⟩:=hrel;by_cases hlt:k<m*16
  ·have hl:=hole_le A.lines k (by rw[hll.out];exact hk);rw[hll.out]at hl;have CK:=Lib.hid (CH.out k hk);obtain⟨H,hH⟩: ∃H,H=hole A.lines k:=⟨_,rfl⟩;have HH:=Lib.hid hH;rw[←hH]at CK hl;clear hH;by_cases hyes:many≤(H:Int)-k
   ·have hfin:find A.lines f many=some (k,H):=by
     rw[hE.out,find_yes A.lines k many (by rw[hll.out];exact hlt) (by rw[←HH.out];exact hyes),←HH.out]
    have hf2:=Lib.hid hfin;clear hfin;go_wp2_with (go_at_call 134;refine CK.out.mono ?_;rintro e w' ⟨rfl,rfl⟩);go_ret3;rw[hf2.out];exact⟨rfl,rfl⟩
   ·have hfin:find A.lines f many=find A.lines (max H (k+1)) many:=by
     rw[hE.out,find_next A.lines k many (by rw[hll.out];exact hlt) (by rw[←HH.out];exact hyes),←HH.out]
    have hf2:=Lib.hid hfin;clear hfin;by_cases hkH:k+1≤H
    ·rw[show max H (k+1)=H from by omega]at hf2;go_wp2_with (go_at_call 134;refine CK.out.mono ?_;rintro e w' ⟨rfl,rfl⟩)
     go_round
     case rel=>exact⟨H,by omega,rfl,hf2⟩
     case measure=>simp[intOf];omega
    ·rw[show max H (k+1)=k+1 from by omega]at hf2;go_wp2_with (go_at_call 134;refine CK.out.mono ?_;rintro e w' ⟨rfl,rfl⟩)
     go_round
     case rel=>exact⟨k+1,by omega,by go_num,hf2⟩
     case measure=>simp[intOf];omega
  ·have hfin:find A.lines f many=none:=by
    rw[hE.out,find_end A.lines k many (by rw[hll.out];omega)]
   have hf2:=Lib.hid hfin;clear hfin;go_wp2;go_ret3;rw[hf2.out];exact⟨rfl,rfl⟩
def zV(l:List (Bool×Bool)):Nat→Option Nat
 |0=>none
 |q+1=>if freeOf l q=16 then some q else zV l q
def blockVal:Option Nat→Value
 |some q=> .tuple #[.int .i64 ((q:Int)*16),.int .i64 (((q:Int)+1)*16),.bool true]
 |none=> .tuple #[.int .i64 0,.int .i64 0,.bool false]
theorem zw(l:List (Bool×Bool))(n q:Nat)(h:zV l n=some q):q<n∧freeOf l q=16:=by
 induction n with
 |zero=>simp[zV]at h
 |succ n ih=>
  simp only[zV]at h;split at h
  ·simp at h;subst h;exact⟨by omega,by assumption⟩
  ·have:=ih h;exact⟨by omega,this.2⟩
theorem block_c(w:World){m:Nat}(hA:ArAt w b wb lb A)(ok:A.Ok m):
 Calls Tryz.prog 133 #[.pointer (some ⟨b,0,none⟩)] w fun e w'=>e=.returned (blockVal (zV A.lines m))∧Fr [] w w':=by
 have h1:=ok.m1;have h2:=ok.m2;have CB:=Lib.hid (blocks_c w hA ok);have CF:Hid (∀w',Fr [] w w'→∀q,q<m→_):=Lib.hid (fun w' (hF:Fr [] w w') q hq=>free_yes w' (hA.fr hF (by simp) (by simp) (by simp)) ok q hq);clear hA ok;go_enter Tryz.func133,Tryz.ntmps133;go_wp2_with (go_at_call 83;refine CB.out.mono ?_;rintro e w' ⟨rfl,rfl⟩);go_loopw [5] (fun x wr=> ∃k:Nat,k≤m∧x=.int .i64 ((k:Int)-1)∧Hid (zV A.lines m=zV A.lines k)∧Fr [] w wr) (fun x _=>(intOf x+1).toNat)
 case atStart=>exact⟨m,Nat.le_refl _,rfl,Lib.hid rfl,Fr.refl _ _⟩
 case round=>
  obtain⟨k,hk,rfl,hE,hF⟩:=hrel;by_cases hz:k=0
  ·subst hz;have hE2:Hid (zV A.lines m=none):=Lib.hid (by rw[hE.out];rfl);clear hE;go_wp2;go_ret3;rw[hE2.out];exact⟨rfl,hF⟩
  ·obtain⟨q,rfl⟩: ∃q,k=q+1:=⟨k-1,by omega⟩;have CQ:=Lib.hid (CF.out wr hF q (by omega));have he:zV A.lines (q+1)=if freeOf A.lines q=16 then some q else zV A.lines q:=rfl
   rw[show((q+1:Nat):Int)-1=(q:Int)from by omega];by_cases h16:freeOf A.lines q=16
   ·rw[if_pos h16]at he;have hE2:Hid (zV A.lines m=some q):=Lib.hid (by rw[hE.out,he]);rw[h16]at CQ;clear he hE h16;go_wp2_with (go_at_call 106;refine CQ.out.mono ?_;rintro e w' ⟨rfl,hF2⟩);go_ret3;rw[hE2.out];exact⟨rfl,hF.same hF2⟩
   ·rw[if_neg h16]at he;have hE2:Hid (zV A.lines m=zV A.lines q):=Lib.hid (by rw[hE.out,he]);have hb:((freeOf A.lines q:Int)==16)=false:=by simp;omega
    clear he hE h16;go_wp2_with (go_at_call 106;refine CQ.out.mono ?_;rintro e w' ⟨rfl,hF2⟩);go_roundw
    case rel=>exact⟨q,by omega,rfl,hE2,hF.same hF2⟩
    case measure=>simp[intOf]
theorem find_spec(l:List (Bool×Bool))(i:Nat)(many:Int)(hm:1≤many)(f t:Nat)(h:find l i many=some (f,t)):i≤f∧f<t∧t≤l.length∧many≤(t:Int)-f∧t=hole l f:=by
 unfold find at h;generalize l.length-i=fuel at h
 induction fuel generalizing i with
 |zero=>simp[findF]at h
 |succ n ih=>
  simp only[findF]at h;split at h
  ·split at h
   ·simp at h;obtain⟨rfl,rfl⟩:=h;have:=hole_le l i (by omega);omega
   ·have:=ih _ h;omega
  ·simp at h
def optVal:Option Nat→Value
 |some n=> .tuple #[.int .i64 n,.bool true]
 |none=> .tuple #[.int .i64 0,.bool false]
def Ar.smallA(A:Ar)(n:Nat):Ar×Option Nat:=
 if n≤A.st-A.sf then({ A with sf:=A.sf+n },some A.sf)else
 match find A.lines A.next 1 with
 |none=>(A,none)
 |some (f,t)=>({ A.claim f t with sf:=f*16+n,st:=t*16,next:=t },some (f*16))
def Ar.greatA(A:Ar)(n:Nat)(m:Nat):Ar×Option Nat:=
 if n≤A.gt-A.gf then({ A with gf:=A.gf+n },some A.gf)else
 match zV A.lines m with
 |some q=>({ A.claim (q*16) ((q+1)*16)with gf:=q*16*16+n,gt:=(q+1)*16*16 },some (q*16*16))
 |none=>
  match find A.lines 0 ((n+15)/16:Nat)with
  |none=>(A,none)
  |some (f,t)=>({ A.claim f t with gf:=f*16+n,gt:=t*16 },some (f*16))
def Ar.freshA(A:Ar)(n:Nat)(m:Nat):Ar×Option Nat:=
 if n≤A.ct-A.cf then({ A with cf:=A.cf+n },some A.cf)else
 match zV A.lines m with
 |some q=>({ A.claim (q*16) ((q+1)*16)with cf:=q*16*16+n,ct:=(q+1)*16*16 },some (q*16*16))
 |none=>(A,none)
def Done(b wb lb:Nat)(w:World)(r:Ar×Option Nat)(e:Ending)(w':World):Prop:=e=.returned (optVal r.2)∧ArAt w' b wb lb r.1∧Fr [b,lb] w w'
theorem done_mk{w':World}{r:Ar×Option Nat}{A':Ar}{o:Option Nat}{v:Value}(hr:r=(A',o))(hv:v=optVal o)(hA:ArAt w' b wb lb A')(hF:Fr [b,lb] w w'):Done b wb lb w r (.returned v) w':=by
 subst hr hv;exact⟨rfl,hA,hF⟩
theorem claim_i(w:World){m:Nat}(hA:ArAt w b wb lb A)(ok:A.Ok m)(F T:Int)(f t:Nat)(hF:F=f)(hT:T=t)(hft:f≤t)(ht:t≤m*16):
 Calls Tryz.prog 132 #[.pointer (some ⟨b,0,none⟩),.int .i64 F,.int .i64 T] w fun e w'=>e=.returned (.agg #[.int .i64 (F*16),.int .i64 (T*16)])∧ArAt w' b wb lb (A.claim f t)∧Fr [lb] w w':=by
 subst hF hT;exact claim_c w hA ok f t hft ht
theorem small_take(w:World){m:Nat}(hA:ArAt w b wb lb A)(ok:A.Ok m)(n:Nat)(h0:1≤n)(h1:n≤16):
 Calls Tryz.prog 125 #[.pointer (some ⟨b,0,none⟩),.int .i64 (n:Int)] w (Done b wb lb w (A.smallA n)):=by
 have m1:=ok.m1;have m2:=ok.m2;have s1:=ok.s1;have s2:=ok.s2;by_cases hs:n≤A.st-A.sf
 ·have hr:A.smallA n=({ A with sf:=A.sf+n },some A.sf):=by unfold Ar.smallA;rw[if_pos hs]
  have AT:=Lib.hid hA;have HR:=Lib.hid hr;clear hr ok hA;go_enter Tryz.func125,Tryz.ntmps125;go_wp2_with fail;refine(take_yes _ b 2 A.sf A.st n AT.out.c2 AT.out.c3 (AT.out.fb 2) (by omega) (by omega) (by omega) (by omega) (by omega) (by omega) (by omega)).mono ?_;rintro e w' ⟨rfl,hw⟩;subst hw;go_wp2;go_ret2;exact done_mk HR.out rfl (ArAt.fr (AT.out.field { A with sf:=A.sf+n } 2 _ rfl rfl rfl) ((Fr.refl [] _).drew) (by simp) (by simp) (by simp)) ((Fr.refl _ _).setCell (by simp) _).drew
 ·have c8:=hA.c8;have x1:=ok.x1;cases hfind:find A.lines A.next 1 with
  |none=>
   have HR:Hid (A.smallA n=(A,none)):=Lib.hid (by unfold Ar.smallA;rw[if_neg hs,hfind]);have CF:=Lib.hid (find_c w.drew (ArAt.fr hA (Fr.refl [] w).drew (by simp) (by simp) (by simp)) ok A.next 1 x1 (by omega) (by omega));rw[hfind]at CF;simp only[findVal]at CF;have AT:=Lib.hid hA;clear ok hA hfind;go_enter Tryz.func125,Tryz.ntmps125;go_wp2_with fail;refine(take_no _ b 2 A.sf A.st n AT.out.c2 AT.out.c3 (by omega) (by omega) (by omega) (by omega) (by omega)).mono ?_;rintro e w' ⟨rfl,hw⟩;subst hw;go_wp2_with fail;refine CF.out.mono ?_;rintro e w' ⟨rfl,rfl⟩;go_wp2;go_ret2;exact done_mk HR.out rfl (ArAt.fr AT.out (Fr.refl [] w).drew (by simp) (by simp) (by simp)) (Fr.refl _ _).drew
  |some ft=>
   obtain⟨f,t⟩:=ft;obtain⟨p1,p2,p3,p4,p5⟩:=find_spec _ _ _ (by omega) _ _ hfind;rw[ok.ll]at p3;have HR:Hid (A.smallA n=({ A.claim f t with sf:=f*16+n,st:=t*16,next:=t },some (f*16))):=Lib.hid (by unfold Ar.smallA;rw[if_neg hs,hfind]);have hd:ArAt w.drew b wb lb A:=ArAt.fr hA (Fr.refl [] w).drew (by simp) (by simp) (by simp);have CF:=Lib.hid (find_c w.drew hd ok A.next 1 x1 (by omega) (by omega));rw[hfind]at CF;simp only[findVal]at CF;have CC:=Lib.hid (claim_c w.drew hd ok f t (by omega) p3);have AT:=Lib.hid hA;clear ok hA hfind p5 hd;go_enter Tryz.func125,Tryz.ntmps125;go_wp2_with fail;refine(take_no _ b 2 A.sf A.st n AT.out.c2 AT.out.c3 (by omega) (by omega) (by omega) (by omega) (by omega)).mono ?_;rintro e w' ⟨rfl,hw⟩;subst hw;go_wp2_with fail;refine CF.out.mono ?_;rintro e w' ⟨rfl,rfl⟩;go_wp2_with fail;refine CC.out.mono ?_;rintro e w1 ⟨rfl,hA1,hF1⟩;have k2:=hA1.c2;have k3:=hA1.c3;have k8:=hA1.c8;have kf:=hA1.fb;have AT1:=Lib.hid hA1;clear hA1;go_wp2_with fail;have hA3:=((AT1.out.field { A.claim f t with sf:=f*16 } 2 (.int .i64 ((f:Int)*16)) (by simp[Ar.cells]) rfl rfl).field { A.claim f t with sf:=f*16,st:=t*16 } 3 (.int .i64 ((t:Int)*16)) (by simp[Ar.cells]) rfl rfl).field { A.claim f t with sf:=f*16,st:=t*16,next:=t } 8 (.int .i64 (t:Int)) rfl rfl rfl;have AT3:=Lib.hid hA3;clear hA3;refine(take_yes _ b 2 (f*16:Nat) (t*16:Nat) n AT3.out.c2 AT3.out.c3 (AT3.out.fb 2) (by omega) (by omega) (by omega) (by omega) (by omega) (by omega) (by omega)).mono ?_;rintro e w' ⟨rfl,hw⟩;subst hw;go_wp2;go_ret2;refine done_mk HR.out rfl (ArAt.fr (AT3.out.field { A.claim f t with sf:=f*16+n,st:=t*16,next:=t } 2 _ (by simp[Ar.cells]) rfl rfl) ((Fr.refl [] _).drew) (by simp) (by simp) (by simp)) ?_;exact(((((((Fr.refl _ w).drew.trans hF1 (by simp)).setCell (by simp) _).setCell (by simp) _).setCell (by simp) _).setCell (by simp) _)).drew
theorem greater_c(w:World){m:Nat}(hA:ArAt w b wb lb A)(ok:A.Ok m)(n:Nat)(h0:17≤n)(h1:n≤256):
 Calls Tryz.prog 129 #[.pointer (some ⟨b,0,none⟩),.int .i64 (n:Int)] w (Done b wb lb w (A.greatA n m)):=by
 have m1:=ok.m1;have m2:=ok.m2;have s1:=ok.g1;have s2:=ok.g2;by_cases hs:n≤A.gt-A.gf
 ·have HR:Hid (A.greatA n m=({ A with gf:=A.gf+n },some A.gf)):=Lib.hid (by unfold Ar.greatA;rw[if_pos hs]);have AT:=Lib.hid hA;clear ok hA;go_enter Tryz.func129,Tryz.ntmps129;go_wp2_with fail;refine(take_yes _ b 4 A.gf A.gt n AT.out.c4 AT.out.c5 (AT.out.fb 4) (by omega) (by omega) (by omega) (by omega) (by omega) (by omega) (by omega)).mono ?_;rintro e w' ⟨rfl,hw⟩;subst hw;go_wp2;go_ret2;exact done_mk HR.out rfl (ArAt.fr (AT.out.field { A with gf:=A.gf+n } 4 _ rfl rfl rfl) ((Fr.refl [] _).drew) (by simp) (by simp) (by simp)) ((Fr.refl _ _).setCell (by simp) _).drew
 ·have hd:ArAt w.drew b wb lb A:=ArAt.fr hA (Fr.refl [] w).drew (by simp) (by simp) (by simp);have CB:=Lib.hid (block_c w.drew hd ok);have AT:=Lib.hid hA;have OK:=Lib.hid ok;cases hb:zV A.lines m with
  |some q=>
   obtain⟨q1,q2⟩:=zw _ _ _ hb;have HR:Hid (A.greatA n m=({ A.claim (q*16) ((q+1)*16)with gf:=q*16*16+n,gt:=(q+1)*16*16 },some (q*16*16))):=Lib.hid (by unfold Ar.greatA;rw[if_neg hs,hb]);rw[hb]at CB;simp only[blockVal]at CB;clear ok hA hb q2 hd;go_enter Tryz.func129,Tryz.ntmps129;go_wp2_with fail;refine(take_no _ b 4 A.gf A.gt n AT.out.c4 AT.out.c5 (by omega) (by omega) (by omega) (by omega) (by omega)).mono ?_;rintro e w' ⟨rfl,hw⟩;subst hw;go_wp2_with fail;refine CB.out.mono ?_;rintro e w1 ⟨rfl,hF0⟩;go_wp2_with fail;refine(claim_i w1 (ArAt.fr AT.out ((Fr.refl [] w).drew.same hF0) (by simp) (by simp) (by simp)) OK.out _ _ (q*16) ((q+1)*16) (by omega) (by omega) (by omega) (by omega)).mono ?_;rintro e w2 ⟨rfl,hA1,hF1⟩;have k2:=hA1.c4;have k3:=hA1.c5;have kf:=hA1.fb;have AT1:=Lib.hid hA1;clear hA1;go_wp2_with fail;have hA3:=(AT1.out.field { A.claim (q*16) ((q+1)*16)with gf:=q*16*16 } 4 (.int .i64 ((q:Int)*16*16)) (by simp[Ar.cells]) rfl rfl).field { A.claim (q*16) ((q+1)*16)with gf:=q*16*16,gt:=(q+1)*16*16 } 5 (.int .i64 (((q:Int)+1)*16*16)) (by simp[Ar.cells]) rfl rfl;have AT3:=Lib.hid hA3;clear hA3;refine(take_yes _ b 4 (q*16*16:Nat) ((q+1)*16*16:Nat) n AT3.out.c4 AT3.out.c5 (AT3.out.fb 4) (by omega) (by omega) (by omega) (by omega) (by omega) (by omega) (by omega)).mono ?_;rintro e w' ⟨rfl,hw⟩;subst hw;go_wp2;go_ret2;refine done_mk HR.out rfl (ArAt.fr (AT3.out.field { A.claim (q*16) ((q+1)*16)with gf:=q*16*16+n,gt:=(q+1)*16*16 } 4 _ (by simp[Ar.cells]) rfl rfl) ((Fr.refl [] _).drew) (by simp) (by simp) (by simp)) ?_;exact((((((Fr.refl _ w).drew.trans hF0 (by simp)).trans hF1 (by simp)).setCell (by simp) _).setCell (by simp) _).setCell (by simp) _).drew
  |none=>
   rw[hb]at CB;simp only[blockVal]at CB;have hq:((n:Int)+16-1)/16=(((n+15)/16:Nat):Int):=by omega
   cases hfind:find A.lines 0 ((n+15)/16:Nat)with
   |none=>
    have HR:Hid (A.greatA n m=(A,none)):=Lib.hid (by unfold Ar.greatA;rw[if_neg hs,hb];simp only[];rw[hfind]);have HF:=Lib.hid hfind;have HQ:=Lib.hid hq;clear ok hA hb hfind hd hq;go_enter Tryz.func129,Tryz.ntmps129;go_wp2_with fail;refine(take_no _ b 4 A.gf A.gt n AT.out.c4 AT.out.c5 (by omega) (by omega) (by omega) (by omega) (by omega)).mono ?_;rintro e w' ⟨rfl,hw⟩;subst hw;go_wp2_with fail;refine CB.out.mono ?_;rintro e w1 ⟨rfl,hF0⟩;go_wp2_with fail;have hA1:=ArAt.fr AT.out ((Fr.refl [] w).drew.same hF0) (by simp) (by simp) (by simp);have CF:=find_c w1 hA1 OK.out 0 (((n:Int)+16-1)/16) (by omega) (by omega) (by omega);rw[HQ.out,HF.out,←HQ.out]at CF;simp only[findVal]at CF;refine CF.mono ?_;rintro e w' ⟨rfl,rfl⟩;clear CF;go_wp2;go_ret2;exact done_mk HR.out rfl hA1 (((Fr.refl _ w).drew.trans hF0 (by simp)))
   |some ft=>
    obtain⟨f,t⟩:=ft;obtain⟨p1,p2,p3,p4,p5⟩:=find_spec _ _ _ (by omega) _ _ hfind;rw[ok.ll]at p3;have HR:Hid (A.greatA n m=({ A.claim f t with gf:=f*16+n,gt:=t*16 },some (f*16))):=Lib.hid (by unfold Ar.greatA;rw[if_neg hs,hb];simp only[];rw[hfind]);have HF:=Lib.hid hfind;have HQ:=Lib.hid hq;clear ok hA hb hfind hd hq p5;go_enter Tryz.func129,Tryz.ntmps129;go_wp2_with fail;refine(take_no _ b 4 A.gf A.gt n AT.out.c4 AT.out.c5 (by omega) (by omega) (by omega) (by omega) (by omega)).mono ?_;rintro e w' ⟨rfl,hw⟩;subst hw;go_wp2_with fail;refine CB.out.mono ?_;rintro e w1 ⟨rfl,hF0⟩;go_wp2_with fail;have hA1:=ArAt.fr AT.out ((Fr.refl [] w).drew.same hF0) (by simp) (by simp) (by simp);have CF:=find_c w1 hA1 OK.out 0 (((n:Int)+16-1)/16) (by omega) (by omega) (by omega);rw[HQ.out,HF.out,←HQ.out]at CF;simp only[findVal]at CF;refine CF.mono ?_;rintro e w' ⟨rfl,rfl⟩;clear CF;have A1:=Lib.hid hA1;clear hA1;go_wp2_with fail;refine(claim_c w1 A1.out OK.out f t (by omega) p3).mono ?_;rintro e w2 ⟨rfl,hA1,hF1⟩;have k2:=hA1.c4;have k3:=hA1.c5;have kf:=hA1.fb;have AT1:=Lib.hid hA1;clear hA1;go_wp2_with fail;have hA3:=(AT1.out.field { A.claim f t with gf:=f*16 } 4 (.int .i64 ((f:Int)*16)) (by simp[Ar.cells]) rfl rfl).field { A.claim f t with gf:=f*16,gt:=t*16 } 5 (.int .i64 ((t:Int)*16)) (by simp[Ar.cells]) rfl rfl;have AT3:=Lib.hid hA3;clear hA3;refine(take_yes _ b 4 (f*16:Nat) (t*16:Nat) n AT3.out.c4 AT3.out.c5 (AT3.out.fb 4) (by omega) (by omega) (by omega) (by omega) (by omega) (by omega) (by omega)).mono ?_;rintro e w' ⟨rfl,hw⟩;subst hw;go_wp2;go_ret2;refine done_mk HR.out rfl (ArAt.fr (AT3.out.field { A.claim f t with gf:=f*16+n,gt:=t*16 } 4 _ (by simp[Ar.cells]) rfl rfl) ((Fr.refl [] _).drew) (by simp) (by simp) (by simp)) ?_;exact((((((Fr.refl _ w).drew.trans hF0 (by simp)).trans hF1 (by simp)).setCell (by simp) _).setCell (by simp) _).setCell (by simp) _).drew
def Ar.alloc(A:Ar)(m:Nat)(n:Int):Ar×Option Nat:=if n<1∨256<n then(A,none)else if 16<n then A.greatA n.toNat m else A.smallA n.toNat
theorem alloc_c(w:World){m:Nat}(hA:ArAt w b wb lb A)(ok:A.Ok m)(n:Int):
 Calls Tryz.prog 125 #[.pointer (some ⟨b,0,none⟩),.int .i64 n] w (Done b wb lb w (A.alloc m n)):=by
 unfold Ar.alloc;by_cases h0:n<1∨256<n
 ·rw[if_pos h0];have AT:=Lib.hid hA;clear ok hA;rcases h0 with h0|h0
  all_goals
   go_enter Tryz.func125,Tryz.ntmps125;go_wp2;go_ret2;exact done_mk rfl rfl AT.out (Fr.refl _ _)
 ·rw[if_neg h0];by_cases h1:16<n
  ·rw[if_pos h1];have CG:=greater_c w hA ok n.toNat (by omega) (by omega);rw[show((n.toNat:Nat):Int)=n from by omega]at CG;have CG:=Lib.hid CG;have h2:1≤n:=by omega
   have h3:n≤256:=by omega
   generalize A.greatA n.toNat m=r at CG;have AT:=Lib.hid hA;clear ok hA h0;cases ho:r.2 with
   |none=>
    go_enter Tryz.func125,Tryz.ntmps125;go_wp2_with fail;refine CG.out.mono ?_;rintro e w' ⟨rfl,hA',hF'⟩;rw[ho];simp only[optVal];have D:=Lib.hid (done_mk (w:=w) (r:=r) (A':=r.1) (o:=none) (by rw[←ho]) rfl hA' hF');clear hA' hF' ho CG;go_wp2;go_ret2;exact D.out
   |some k=>
    go_enter Tryz.func125,Tryz.ntmps125;go_wp2_with fail;refine CG.out.mono ?_;rintro e w' ⟨rfl,hA',hF'⟩;rw[ho];simp only[optVal];have D:=Lib.hid (done_mk (w:=w) (r:=r) (A':=r.1) (o:=some k) (by rw[←ho]) rfl hA' hF');clear hA' hF' ho CG;go_wp2;go_ret2;exact D.out
  ·rw[if_neg h1];have:=small_take w hA ok n.toNat (by omega) (by omega)
   rwa[show((n.toNat:Nat):Int)=n from by omega]at this
def Ar.fresh(A:Ar)(m:Nat)(n:Int):Ar×Option Nat:=if n<1∨256<n then(A,none)else A.freshA n.toNat m
theorem fresh_c(w:World){m:Nat}(hA:ArAt w b wb lb A)(ok:A.Ok m)(n:Int):
 Calls Tryz.prog 128 #[.pointer (some ⟨b,0,none⟩),.int .i64 n] w (Done b wb lb w (A.fresh m n)):=by
 unfold Ar.fresh;by_cases h0:n<1∨256<n
 ·rw[if_pos h0];have AT:=Lib.hid hA;clear ok hA;rcases h0 with h0|h0
  all_goals
   go_enter Tryz.func128,Tryz.ntmps128;go_wp2;go_ret2;exact done_mk rfl rfl AT.out (Fr.refl _ _)
 rw[if_neg h0];have h2:1≤n:=by omega
 have h3:n≤256:=by omega
 clear h0;obtain⟨n,rfl⟩:=Int.eq_ofNat_of_zero_le (show 0≤n by omega);simp only[Int.toNat_natCast];have h2:1≤n:=by omega
 have h3:n≤256:=by omega
 have m1:=ok.m1;have m2:=ok.m2;have s1:=ok.c1;have s2:=ok.c2;by_cases hs:n≤A.ct-A.cf
 ·have HR:Hid (A.freshA n m=({ A with cf:=A.cf+n },some A.cf)):=Lib.hid (by unfold Ar.freshA;rw[if_pos hs]);have AT:=Lib.hid hA;clear ok hA;go_enter Tryz.func128,Tryz.ntmps128;go_wp2_with fail;refine(take_yes _ b 6 A.cf A.ct n AT.out.c6 AT.out.c7 (AT.out.fb 6) (by omega) (by omega) (by omega) (by omega) (by omega) (by omega) (by omega)).mono ?_;rintro e w' ⟨rfl,hw⟩;subst hw;go_wp2;go_ret2;exact done_mk HR.out rfl (ArAt.fr (AT.out.field { A with cf:=A.cf+n } 6 _ rfl rfl rfl) ((Fr.refl [] _).drew) (by simp) (by simp) (by simp)) ((Fr.refl _ _).setCell (by simp) _).drew
 ·have hd:ArAt w.drew b wb lb A:=ArAt.fr hA (Fr.refl [] w).drew (by simp) (by simp) (by simp);have CB:=Lib.hid (block_c w.drew hd ok);have AT:=Lib.hid hA;have OK:=Lib.hid ok;cases hb:zV A.lines m with
  |some q=>
   obtain⟨q1,q2⟩:=zw _ _ _ hb;have HR:Hid (A.freshA n m=({ A.claim (q*16) ((q+1)*16)with cf:=q*16*16+n,ct:=(q+1)*16*16 },some (q*16*16))):=Lib.hid (by unfold Ar.freshA;rw[if_neg hs,hb]);rw[hb]at CB;simp only[blockVal]at CB;clear ok hA hb q2 hd;go_enter Tryz.func128,Tryz.ntmps128;go_wp2_with fail;refine(take_no _ b 6 A.cf A.ct n AT.out.c6 AT.out.c7 (by omega) (by omega) (by omega) (by omega) (by omega)).mono ?_;rintro e w' ⟨rfl,hw⟩;subst hw;go_wp2_with fail;refine CB.out.mono ?_;rintro e w1 ⟨rfl,hF0⟩;go_wp2_with fail;refine(claim_i w1 (ArAt.fr AT.out ((Fr.refl [] w).drew.same hF0) (by simp) (by simp) (by simp)) OK.out _ _ (q*16) ((q+1)*16) (by omega) (by omega) (by omega) (by omega)).mono ?_;rintro e w2 ⟨rfl,hA1,hF1⟩;have k2:=hA1.c6;have k3:=hA1.c7;have kf:=hA1.fb;have AT1:=Lib.hid hA1;clear hA1;go_wp2_with fail;have hA3:=(AT1.out.field { A.claim (q*16) ((q+1)*16)with cf:=q*16*16 } 6 (.int .i64 ((q:Int)*16*16)) (by simp[Ar.cells]) rfl rfl).field { A.claim (q*16) ((q+1)*16)with cf:=q*16*16,ct:=(q+1)*16*16 } 7 (.int .i64 (((q:Int)+1)*16*16)) (by simp[Ar.cells]) rfl rfl;have AT3:=Lib.hid hA3;clear hA3;refine(take_yes _ b 6 (q*16*16:Nat) ((q+1)*16*16:Nat) n AT3.out.c6 AT3.out.c7 (AT3.out.fb 6) (by omega) (by omega) (by omega) (by omega) (by omega) (by omega) (by omega)).mono ?_;rintro e w' ⟨rfl,hw⟩;subst hw;go_wp2;go_ret2;refine done_mk HR.out rfl (ArAt.fr (AT3.out.field { A.claim (q*16) ((q+1)*16)with cf:=q*16*16+n,ct:=(q+1)*16*16 } 6 _ (by simp[Ar.cells]) rfl rfl) ((Fr.refl [] _).drew) (by simp) (by simp) (by simp)) ?_;exact((((((Fr.refl _ w).drew.trans hF0 (by simp)).trans hF1 (by simp)).setCell (by simp) _).setCell (by simp) _).setCell (by simp) _).drew
  |none=>
   have HR:Hid (A.freshA n m=(A,none)):=Lib.hid (by unfold Ar.freshA;rw[if_neg hs,hb]);rw[hb]at CB;simp only[blockVal]at CB;clear ok hA hb hd;go_enter Tryz.func128,Tryz.ntmps128;go_wp2_with fail;refine(take_no _ b 6 A.cf A.ct n AT.out.c6 AT.out.c7 (by omega) (by omega) (by omega) (by omega) (by omega)).mono ?_;rintro e w' ⟨rfl,hw⟩;subst hw;go_wp2_with fail;refine CB.out.mono ?_;rintro e w1 ⟨rfl,hF0⟩;go_wp2;go_ret2;exact done_mk HR.out rfl (ArAt.fr AT.out ((Fr.refl [] w).drew.same hF0) (by simp) (by simp) (by simp)) (((Fr.refl _ w).drew.trans hF0 (by simp)))
end
end Go.Proofs.YtghkahcogphomaaGreat
