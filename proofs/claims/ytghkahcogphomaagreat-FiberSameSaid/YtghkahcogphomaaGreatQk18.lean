/- Fibers: a part of the walk. No condition. -/
import Derived.Test.YtghkahcogphomaaGreatQk17
set_option linter.all false
section
namespace Go.Proofs.YtghkahcogphomaaGreat
variable{A A':Ar}{m N:Nat}{G K G' K':List Bool}{D C C':Nat→Option Ob}{R E:Nat→Prop}{T:Tr}{ms ms' ws:List Nat}{p:Nat→Nat}{cl:Int→Int}
def Tx(D C:Nat→Option Ob)(ms:List Nat)(x y:Int):Prop:=
 (x%8≠1∧y=x)∨∃k ok ck,D k=some ok∧x=pw ok.a∧k∈ms∧C k=some ck∧y=pw ck.a
theorem Tx.mono{x y:Int}(h:Tx D C ms x y)(hm: ∀j,j∈ms→j∈ms')(hc: ∀j c,j∈ms→C j=some c→∃c',C' j=some c'∧c'.a=c.a):Tx D C' ms' x y:=by
 rcases h with h|⟨k,ok,ck,h1,h2,h3,h4,h5⟩
 ·exact .inl h
 ·obtain⟨c',h6,h7⟩:=hc k ck h3 h4;exact .inr ⟨k,ok,c',h1,h2,hm k h3,h6,by rw[h7];exact h5⟩
structure Cur(D C:Nat→Option Ob)(ms:List Nat)(n:Nat)(o c:Ob):Prop where
 k:c.kind=o.kind
 q:c.pins=o.pins
 l:c.fs.length=o.fs.length
 a: ∀i,i<n→i<o.fs.length→Tx D C ms (o.fs[i]?.getD 0) (c.fs[i]?.getD 0)
 b: ∀i,n≤i→c.fs[i]? =o.fs[i]?
theorem Cur.mono{n:Nat}{o c:Ob}(h:Cur D C ms n o c)(hm: ∀j,j∈ms→j∈ms')(hc: ∀j c,j∈ms→C j=some c→∃c',C' j=some c'∧c'.a=c.a):Cur D C' ms' n o c:=
 ⟨h.k,h.q,h.l,fun i h1 h2=>(h.a i h1 h2).mono hm hc,h.b⟩
def cntO(o:Ob):Nat:=(countF o.kind o.fs.length (o.fs[1]?.getD 0)).toNat
theorem countF_le(k n u:Int)(hn:0≤n):countF k n u≤n:=by unfold countF;split;omega;split;omega;split<;>omega
theorem cntO_le(o:Ob):cntO o≤o.fs.length:=by
 have:=countF_le o.kind o.fs.length (o.fs[1]?.getD 0) (by omega);unfold cntO;omega
structure TI(D:Nat→Option Ob)(R:Nat→Prop)(m:Nat)(cl:Int→Int)(T:Tr)(G K:List Bool)(C:Nat→Option Ob)(ms ws:List Nat)(p:Nat→Nat)(E:Nat→Prop):Prop where
 hg:HG T.A m G K C
 cd: ∀j c,C j=some c→∃o,D j=some o
 dc: ∀j o,D j=some o→∃c,C j=some c∧Cur D C ms (p j) o c∧(j∉ms→c=o∧p j=0)
 fw: ∀j o c,D j=some o→C j=some c→c.a≠o.a→T.A.wd o.a=mkW 7 c.a∧own G K o.a∧c.pins=0∧∀i ci,C i=some ci→¬(ci.a≤o.a∧o.a<ci.e)
 nd:ms.Nodup
 md: ∀j,j∈ms→(∃o,D j=some o)∧R j
 wn:ws.Nodup
 wm: ∀j,j∈ws→j∈ms
 lv:T.live=ms.length
 m0:0≤T.moved
 m1:T.moved≤T.live
 mz:T.moved=0→∀j o c,D j=some o→C j=some c→c.a=o.a
 cz:(∀x,cl x=0)→T.moved=0
 sl:T.seen.length=m*256
 sn: ∀a,a<m*256→(T.seen[a]?.getD true=true↔∃j c,j∈ms∧C j=some c∧c.a=a)
 mr: ∀i,i<m*16→(mk' T.A.lines i=true↔∃j c,j∈ms∧C j=some c∧c.a/16≤i∧i≤(c.e-1)/16)
 wk:T.work=ws.map fun j=>pw (((C j).map Ob.a).getD 0)
 p0: ∀j,j∈ws→p j=0
 sc: ∀j o,j∈ms→j∉ws→¬E j→D j=some o→p j=cntO o
theorem pw_mod(a:Nat):pw a%8=1:=by unfold pw;omega
theorem pw_div(a:Nat):pw a/8=a:=by unfold pw;omega
theorem pw_inj{a b:Nat}(h:pw a=pw b):a=b:=by unfold pw at h;omega
theorem wVal_pw(a:Nat):wVal (pw a)=a:=by rw[val1 _ (pw_mod a),pw_div]
theorem szI_ob(h:HG A m G K C){j:Nat}{o:Ob}(ho:C j=some o):szI A m (pw o.a)=o.fs.length:=by
 unfold szI;rw[h.hat ho];rfl
theorem movedF_ob(h:HG A m G K C){j:Nat}{o:Ob}(ho:C j=some o):movedF A m (pw o.a)=none:=by
 unfold movedF;rw[pw_div,Int.toNat_natCast,(h.ob j o ho).hd];rw[if_neg];unfold hdW;omega
theorem movedF_fw{a k:Nat}(ha:a<m*256)(hk:k<1048577)(h:A.wd a=mkW 7 k):movedF A m (pw a)=some (pw k):=by
 unfold movedF;rw[pw_div,Int.toNat_natCast,h,if_pos ⟨pw_mod a,by omega,by unfold mkW;omega⟩]
 congr 1
 unfold mkW pw;omega
theorem moveT_ob(h:HG T.A m G K C){j:Nat}{o:Ob}(ho:C j=some o):
 ∃(A':Ar) (G':List Bool) (k:Nat) (lf mv:Int) (b:Bool),moveT cl m T (pw o.a)=({ T with A:=A',left:=lf,moved:=mv },pw k,b)∧HG A' m G' K (updD C j { o with a:=k })∧
  (∀q,own G K q→own G' K q)∧(∀q,own G K q→q≠o.a→A'.wd q=T.A.wd q)∧(∀i,mk' A'.lines i=mk' T.A.lines i)∧(k=o.a→mv=T.moved)∧
  (k≠o.a→A'.wd o.a=mkW 7 k∧o.pins=0∧(¬∀x,cl x=0)∧mv=T.moved+1∧∀q,k≤q→q<k+o.fs.length+1→¬own G K q):=by
 unfold moveT;split
 ·exact⟨T.A,G,o.a,T.left,T.moved,false,rfl,by rw[show({ o with a:=o.a }:Ob)=o from rfl,updD_same ho];exact h,fun _ h=>h,fun _ _ _=>rfl,fun _=>rfl,fun _=>rfl,fun h=>absurd rfl h⟩
 ·rename_i hc
  have hm:=h.move ho;obtain⟨hm1,hm2⟩:=hm;cases hx:(moveF T.A m (pw o.a)).2 with
  |none=>
   rw[hx]at hm2;obtain⟨h1,h2⟩:=hm2;exact⟨_,G,o.a,T.left,T.moved,false,rfl,by rw[show({ o with a:=o.a }:Ob)=o from rfl,updD_same ho];exact h1,fun _ h=>h,fun q _ _=>h2 q,hm1,fun _=>rfl,fun h=>absurd rfl h⟩
  |some x=>
   rw[hx]at hm2;obtain⟨k,G',h1,h2,h3,h4,h5,h6,h7⟩:=hm2;subst h1
   have hne:k≠o.a:=by
    intro he;exact h7 k (by omega) (by omega) (by rw[he];exact(h.ob j o ho).gv o.a (by omega) (by rw[o.ee];omega))
   refine⟨_,G',k,_,_,true,rfl,h3,h5,h6,hm1,fun he=>absurd he hne,fun _=>⟨h4,h2, ?_,rfl,h7⟩⟩;intro hz;apply hc;simp[mvB,hz]
theorem TI.meet(h:TI D R m cl T G K C ms ws p E){j:Nat}{o:Ob}(hD:D j=some o)(hj:j∉ms)(hR:R j){k:Nat}{lf mv:Int}
 (hg:HG A' m G' K (updD C j { o with a:=k })) (ho: ∀q,own G K q→own G' K q) (hw: ∀q,own G K q→q≠o.a→A'.wd q=T.A.wd q) (hm: ∀i,mk' A'.lines i=mk' T.A.lines i) (h1:k=o.a→mv=T.moved)
 (h2:k≠o.a→A'.wd o.a=mkW 7 k∧o.pins=0∧(¬∀x,cl x=0)∧mv=T.moved+1∧∀q,k≤q→q<k+o.fs.length+1→¬own G K q):
 TI D R m cl { T with A:=A'.mark m (k:Int) ((o.fs.length+1:Nat):Int),left:=lf,moved:=mv,seen:=T.seen.set k true,live:=T.live+1,work:=T.work++[pw k]} G' K (updD C j { o with a:=k }) (ms++[j]) (ws++[j]) p E:=by
 obtain⟨c,hC,hcu,hcn⟩:=h.dc j o hD;obtain⟨hco,hp0⟩:=hcn hj;subst hco;have hb:=(hg.ob j _ (zY _ _ _)).b;have he:Ob.e { c with a:=k }=k+c.fs.length+1:=rfl;have hce:=c.ee;rw[he]at hb;obtain⟨g1,g2,g3⟩:=hg.mark k (c.fs.length+1) (by omega) (by omega);have hcown:own G K c.a:=(h.hg.ob j c hC).gv c.a (by omega) (by omega);have hag: ∀i,i≠j→updD C j { c with a:=k } i=C i:=fun i hi=>updD_ne _ _ hi
 have hmj: ∀i,i∈ms→i≠j:=fun i hi hij=>hj (hij▸hi)
 have hmono: ∀i ci,i∈ms→C i=some ci→∃c',updD C j { c with a:=k } i=some c'∧c'.a=ci.a:=fun i ci hi hci=>⟨ci,by rw[hag i (hmj i hi)];exact hci,rfl⟩
 have hmem: ∀i,i∈ms++[j]→i∈ms∨i=j:=fun i hi=>by simpa using hi
 refine⟨g1, ?_, ?_, ?_, ?_, ?_, ?_, ?_, ?_, ?_, ?_, ?_, ?_, ?_, ?_, ?_, ?_, ?_, ?_⟩
 ·intro i ci hci;by_cases hij:i=j
  ·subst hij;exact⟨_,hD⟩
  ·rw[hag i hij]at hci;exact h.cd i ci hci
 ·intro i oi hoi;by_cases hij:i=j
  ·subst hij;rw[hD]at hoi;injection hoi with hoi
   subst hoi;refine⟨_,zY _ _ _,⟨rfl,rfl,rfl,fun q hq=>by rw[hp0]at hq;omega,fun _ _=>rfl⟩,fun hn=>absurd (by simp) hn⟩
  ·obtain⟨ci,a1,a2,a3⟩:=h.dc i oi hoi;exact⟨ci,by rw[hag i hij];exact a1,a2.mono (fun q hq=>by simp[hq]) hmono,fun hn=>a3 (fun hi=>hn (by simp[hi]))⟩
 ·intro i oi ci hoi hci hne;by_cases hij:i=j
  ·subst hij;rw[hD]at hoi;injection hoi with hoi
   subst hoi;rw[zY]at hci;injection hci with hci
   subst hci;simp only at hne⊢;obtain⟨b1,b2,b3,b4,b5⟩:=h2 hne;refine⟨by rw[g2];exact b1,ho _ hcown,b2, ?_⟩;intro q cq hq hcon;by_cases hqj:q=i
   ·subst hqj;rw[zY]at hq;injection hq with hq
    subst hq;rw[he]at hcon;exact b5 c.a hcon.1 (by omega) hcown
   ·rw[hag q hqj]at hq;exact h.hg.ap q i cq c hqj hq hC c.a hcon.1 hcon.2 (by omega) (by omega)
  ·rw[hag i hij]at hci;obtain⟨b1,b2,b3,b4⟩:=h.fw i oi ci hoi hci hne;have hnc:oi.a≠c.a:=fun heq=>b4 j c hC ⟨by omega,by omega⟩
   refine⟨by simp only;rw[g2,hw _ b2 hnc];exact b1,ho _ b2,b3, ?_⟩;intro q cq hq hcon;by_cases hqj:q=j
   ·subst hqj;rw[zY]at hq;injection hq with hq
    subst hq;rw[he]at hcon;by_cases hk:k=c.a
    ·subst hk;exact b4 q c hC ⟨hcon.1,by omega⟩
    ·exact(h2 hk).2.2.2.2 oi.a hcon.1 (by omega) b2
   ·rw[hag q hqj]at hq;exact b4 q cq hq hcon
 ·exact List.nodup_append.2 ⟨h.nd,by simp,fun a ha b hb=>by simp at hb;subst hb;exact hmj a ha⟩
 ·intro i hi;rcases hmem i hi with hi|rfl
  ·exact h.md i hi
  ·exact⟨⟨_,hD⟩,hR⟩
 ·exact List.nodup_append.2 ⟨h.wn,by simp,fun a ha b hb=>by simp at hb;subst hb;exact hmj a (h.wm a ha)⟩
 ·intro i hi;simp only[List.mem_append,List.mem_singleton]at hi⊢;exact hi.imp (h.wm i) id
 ·simp[h.lv]
 ·have:=h.m0;simp only;by_cases hk:k=c.a
  ·rw[h1 hk];exact this
  ·rw[(h2 hk).2.2.2.1];omega
 ·have:=h.m1;simp only;by_cases hk:k=c.a
  ·rw[h1 hk];omega
  ·rw[(h2 hk).2.2.2.1];omega
 ·have m0:=h.m0;simp only;intro hz i oi ci hoi hci;by_cases hk:k=c.a
  ·rw[h1 hk]at hz;by_cases hij:i=j
   ·subst hij;rw[hD]at hoi;injection hoi with hoi
    rw[zY]at hci;injection hci with hci
    subst hci hoi;exact hk
   ·rw[hag i hij]at hci;exact h.mz hz i oi ci hoi hci
  ·rw[(h2 hk).2.2.2.1]at hz;omega
 ·intro hz;have:=h.cz hz;simp only;by_cases hk:k=c.a
  ·rw[h1 hk];exact this
  ·exact absurd hz (h2 hk).2.2.1
 ·simp[h.sl]
 ·intro a ha;have hold:=h.sn a ha;have hsl:=h.sl;simp only;by_cases hak:a=k
  ·subst hak;rw[List.getElem?_set_self (by omega)];simp only[Option.getD_some,true_iff];exact⟨j,_,by simp,zY _ _ _,rfl⟩
  ·rw[List.getElem?_set_ne (Ne.symm hak),hold];constructor
   ·rintro⟨i,ci,a1,a2,a3⟩;exact⟨i,ci,by simp[a1],by rw[hag i (hmj i a1)];exact a2,a3⟩
   ·rintro⟨i,ci,a1,a2,a3⟩;rcases hmem i a1 with a1|rfl
    ·rw[hag i (hmj i a1)]at a2;exact⟨i,ci,a1,a2,a3⟩
    ·rw[zY]at a2;injection a2 with a2
     subst a2;exact absurd a3.symm hak
 ·intro i hi;have hold:=h.mr i hi;simp only;rw[g3,hm];by_cases hc:k/16≤i∧i≤(k+(c.fs.length+1)-1)/16
  ·rw[if_pos hc];simp only[true_iff];exact⟨j,_,by simp,zY _ _ _,hc.1,by rw[he];exact hc.2⟩
  ·rw[if_neg hc,hold];constructor
   ·rintro⟨i,ci,a1,a2,a3⟩;exact⟨i,ci,by simp[a1],by rw[hag i (hmj i a1)];exact a2,a3⟩
   ·rintro⟨q,ci,a1,a2,a3⟩;rcases hmem q a1 with a1|rfl
    ·rw[hag q (hmj q a1)]at a2;exact⟨q,ci,a1,a2,a3⟩
    ·rw[zY]at a2;injection a2 with a2
     subst a2;rw[he]at a3;exact absurd a3 hc
 ·simp only[List.map_append,List.map_cons,List.map_nil,zY,Option.map_some,Option.getD_some];rw[h.wk]
  congr 1
  apply List.map_congr_left;intro i hi;rw[hag i (hmj i (h.wm i hi))]
 ·intro i hi;simp only[List.mem_append,List.mem_singleton]at hi;rcases hi with hi|rfl
  ·exact h.p0 i hi
  ·exact hp0
 ·intro i oi hi hn hE hoi;simp only[List.mem_append,List.mem_singleton,not_or]at hn;rcases hmem i hi with hi|rfl
  ·exact h.sc i oi hi hn.1 hE hoi
  ·exact absurd rfl hn.2
def Fol(D:Nat→Option Ob)(R:Nat→Prop)(x:Int):Prop:=x%8≠1∨∃j o,D j=some o∧x=pw o.a∧R j
theorem TI.follow(h:TI D R m cl T G K C ms ws p E)(x:Int)(hx:Fol D R x):
 ∃G' C' ns,TI D R m cl (zT cl m T x).1 G' K C' (ms++ns) (ws++ns) p E∧Tx D C' (ms++ns) x (zT cl m T x).2∧∀j,j∈ms→C' j=C j:=by
 rcases hx with hx|⟨j,o,hD,rfl,hR⟩
 ·have:zT cl m T x=(T,x):=by unfold zT;rw[if_pos hx]
  rw[this];exact⟨G,C,[],by simpa using h,.inl ⟨hx,rfl⟩,fun _ _=>rfl⟩
 ·obtain⟨c,hC,hcu,hcn⟩:=h.dc j o hD;have hm2:=h.hg.inv.ok.m2;have hcb:=(h.hg.ob j c hC).b;have hce:=c.ee;by_cases hj:j∈ms
  ·by_cases ha:c.a=o.a
   ·have:zT cl m T (pw o.a)=(T,pw o.a):=by
     unfold zT;rw[if_neg (by rw[pw_mod];simp),←ha,movedF_ob h.hg hC];simp only;rw[if_pos];refine .inr (.inr ?_);rw[wVal_pw,Int.toNat_natCast];exact(h.sn c.a (by omega)).2 ⟨j,c,hj,hC,rfl⟩
    rw[this];exact⟨G,C,[],by simpa using h,.inr ⟨j,o,c,hD,rfl,by simpa using hj,hC,by rw[ha]⟩,fun _ _=>rfl⟩
   ·obtain⟨f1,f2,f3,f4⟩:=h.fw j o c hD hC ha;have hoa:o.a<m*256:=h.hg.own_lt f2
    have:zT cl m T (pw o.a)=(T,pw c.a):=by
     unfold zT;rw[if_neg (by rw[pw_mod];simp),movedF_fw hoa (by omega) f1]
    rw[this];exact⟨G,C,[],by simpa using h,.inr ⟨j,o,c,hD,rfl,by simpa using hj,hC,rfl⟩,fun _ _=>rfl⟩
  ·obtain⟨hco,hp0⟩:=hcn hj;subst hco;obtain⟨A',G',k,lf,mv,b,e1,e2,e3,e4,e5,e6,e7⟩:=moveT_ob (cl:=cl) h.hg hC;have hkb:=(e2.ob j _ (zY _ _ _)).b;have hke:Ob.e { c with a:=k }=k+c.fs.length+1:=rfl;rw[hke]at hkb
   have hfw:zT cl m T (pw c.a)=({ T with A:=A'.mark m (k:Int) ((c.fs.length+1:Nat):Int),left:=lf,moved:=mv,seen:=T.seen.set k true,live:=T.live+1,work:=T.work++[pw k]},pw k):=by
    unfold zT;rw[if_neg (by rw[pw_mod];simp),movedF_ob h.hg hC];simp only;rw[if_neg,e1]
    ·simp only[szI_ob h.hg hC,wVal_pw,Int.toNat_natCast];rfl
    ·rw[szI_ob h.hg hC,wVal_pw,Int.toNat_natCast,h.sl];rintro(h1|h1|h1)
     ·omega
     ·omega
     ·obtain⟨i,ci,a1,a2,a3⟩:=(h.sn c.a (by omega)).1 h1;have hij:i≠j:=fun he=>hj (he▸a1)
      have hcie:=ci.ee;exact h.hg.ap i j ci c hij a2 hC c.a (by omega) (by omega) (by omega) (by omega)
   rw[hfw];refine⟨G',_,[j],h.meet hD hj hR e2 e3 e4 e5 e6 e7,.inr ⟨j,c,_,hD,rfl,by simp,zY _ _ _,rfl⟩,fun i hi=>updD_ne _ _ (fun he=>hj (he▸hi))⟩
theorem len_nodup(N:Nat)(l:List Nat)(hn:l.Nodup)(hl: ∀x,x∈l→x<N):l.length≤N:=by
 induction N generalizing l with
 |zero=>
  cases l with
  |nil=>simp
  |cons x l=>have:=hl x (by simp);omega
 |succ N ih=>
  by_cases hN:N∈l
  ·have h1:=ih (l.erase N) (hn.erase N) (fun x hx=>by
    have h2:=(hn.mem_erase_iff).1 hx;have:=hl x h2.2;have:=h2.1;omega)
   rw[List.length_erase_of_mem hN]at h1;omega
  ·have:=ih l hn (fun x hx=>by
    have:=hl x hx;have:x≠N:=fun h=>hN (h▸hx)
    omega)
   omega
theorem TI.len(h:TI D R m cl T G K C ms ws p E)(hN: ∀j o,D j=some o→j<N):ms.length≤N∧ws.length≤N:=
 ⟨len_nodup N ms h.nd fun x hx=>by obtain⟨⟨o,ho⟩,_⟩:=h.md x hx;exact hN x o ho,len_nodup N ws h.wn fun x hx=>by obtain⟨⟨o,ho⟩,_⟩:=h.md x (h.wm x hx);exact hN x o ho⟩
theorem TI.bd(h:TI D R m cl T G K C ms ws p E)(hN: ∀j o,D j=some o→j<N)(hN2:N≤1000000):T.Bd:=by
 have hl:=h.len hN;have:=h.lv;have:=h.m0;have:=h.m1;refine⟨by omega,by omega, ?_⟩;rw[h.wk,List.length_map];omega
def Rel2(P:Int→Int→Prop)(l l':List Int):Prop:=l'.length=l.length∧∀i,i<l.length→P (l[i]?.getD 0) (l'[i]?.getD 0)
theorem TI.followL(h:TI D R m cl T G K C ms ws p E)(hN: ∀j o,D j=some o→j<N)(hN2:N≤1000000)(l:List Int)(hl: ∀x,x∈l→Fol D R x)(hw: ∀x,x∈l→0≤x∧x<18446744073709551616):
 BdL cl m T l∧∃G' C' ns,TI D R m cl (followL cl m T l).1 G' K C' (ms++ns) (ws++ns) p E∧Rel2 (Tx D C' (ms++ns)) l (Go.Proofs.YtghkahcogphomaaGreat.followL cl m T l).2∧∀j,j∈ms→C' j=C j:=by
 induction l generalizing T G C ms ws with
 |nil=>exact⟨trivial,G,C,[],by simpa[Go.Proofs.YtghkahcogphomaaGreat.followL]using h,⟨rfl,by simp⟩,fun _ _=>rfl⟩
 |cons x l ih=>
  obtain⟨G1,C1,n1,h1,h2,h3⟩:=h.follow x (hl x (by simp));obtain⟨b,G2,C2,n2,k1,k2,k3⟩:=ih h1 (fun y hy=>hl y (by simp[hy])) (fun y hy=>hw y (by simp[hy]));refine⟨⟨h.bd hN hN2,hw x (by simp),b⟩,G2,C2,n1++n2,by simpa[Go.Proofs.YtghkahcogphomaaGreat.followL]using k1,⟨by simp[Go.Proofs.YtghkahcogphomaaGreat.followL,k2.1], ?_⟩,fun j hj=>by rw[k3 j (by simp[hj]),h3 j hj]⟩;intro i hi;cases i with
  |zero=>
   simp only[Go.Proofs.YtghkahcogphomaaGreat.followL,List.getElem?_cons_zero,Option.getD_some];refine h2.mono (fun j hj=>by simp only[List.mem_append]at hj⊢;rcases hj with hj|hj<;>simp[hj]) (fun j c hj hc=>⟨c,by rw[k3 j hj];exact hc,rfl⟩)
  |succ i=>
   simp only[Go.Proofs.YtghkahcogphomaaGreat.followL,List.getElem?_cons_succ];have:=k2.2 i (by simpa using hi);simpa using this
theorem TI.followR(h:TI D R m cl T G K C ms ws p E)(hN: ∀j o,D j=some o→j<N)(hN2:N≤1000000)(ls:List (List Int))(hl: ∀l,l∈ls→∀x,x∈l→Fol D R x)(hw: ∀l,l∈ls→∀x,x∈l→0≤x∧x<18446744073709551616):
 BdR cl m T ls∧∃G' C' ns,TI D R m cl (followR cl m T ls).1 G' K C' (ms++ns) (ws++ns) p E∧(∀r,r<ls.length→Rel2 (Tx D C' (ms++ns)) (ls[r]?.getD []) ((Go.Proofs.YtghkahcogphomaaGreat.followR cl m T ls).2[r]?.getD []))∧∀j,j∈ms→C' j=C j:=by
 induction ls generalizing T G C ms ws with
 |nil=>exact⟨trivial,G,C,[],by simpa[Go.Proofs.YtghkahcogphomaaGreat.followR]using h,by simp,fun _ _=>rfl⟩
 |cons l ls ih=>
  obtain⟨b1,G1,C1,n1,h1,h2,h3⟩:=h.followL hN hN2 l (hl l (by simp)) (hw l (by simp));obtain⟨b,G2,C2,n2,k1,k2,k3⟩:=ih h1 (fun y hy=>hl y (by simp[hy])) (fun y hy=>hw y (by simp[hy]));refine⟨⟨b1,b⟩,G2,C2,n1++n2,by simpa[Go.Proofs.YtghkahcogphomaaGreat.followR]using k1, ?_,fun j hj=>by rw[k3 j (by simp[hj]),h3 j hj]⟩;intro i hi;cases i with
  |zero=>
   simp only[Go.Proofs.YtghkahcogphomaaGreat.followR,List.getElem?_cons_zero,Option.getD_some];exact⟨h2.1,fun q hq=>(h2.2 q hq).mono (fun j hj=>by simp only[List.mem_append]at hj⊢;rcases hj with hj|hj<;>simp[hj]) (fun j c hj hc=>⟨c,by rw[k3 j hj];exact hc,rfl⟩)⟩
  |succ i=>
   simp only[Go.Proofs.YtghkahcogphomaaGreat.followR,List.getElem?_cons_succ];have:=k2 i (by simpa using hi);simpa using this
end Go.Proofs.YtghkahcogphomaaGreat
namespace Go.Proofs.YtghkahcogphomaaGreat
variable{A A':Ar}{m N:Nat}{G K G' K':List Bool}{D C C':Nat→Option Ob}{R E:Nat→Prop}{T:Tr}{ms ms' ws:List Nat}{p:Nat→Nat}{cl:Int→Int}
theorem ex_upd{j:Nat}{c c':Ob}(hC:C j=some c)(ha:c'.a=c.a)(he:c'.e=c.e)(Q:Nat→Nat→Prop):
 (∃i ci,i∈ms∧updD C j c' i=some ci∧Q ci.a ci.e)↔∃i ci,i∈ms∧C i=some ci∧Q ci.a ci.e:=by
 constructor
 ·rintro⟨i,ci,h1,h2,h3⟩;by_cases hij:i=j
  ·subst hij;rw[zY]at h2;injection h2 with h2
   subst h2;exact⟨i,c,h1,hC,by rw[←ha,←he];exact h3⟩
  ·rw[updD_ne _ _ hij]at h2;exact⟨i,ci,h1,h2,h3⟩
 ·rintro⟨i,ci,h1,h2,h3⟩;by_cases hij:i=j
  ·subst hij;rw[hC]at h2;injection h2 with h2
   subst h2;exact⟨i,c',h1,zY _ _ _,by rw[ha,he];exact h3⟩
  ·exact⟨i,ci,h1,by rw[updD_ne _ _ hij];exact h2,h3⟩
def updP(p:Nat→Nat)(j k:Nat):Nat→Nat:=fun i=>if i=j then k else p i
theorem TI.setp(h:TI D R m cl T G K C ms ws p E){j:Nat}(hjm:j∈ms)(hjw:j∉ws)(hE:E j){o c:Ob}(hD:D j=some o)(hC:C j=some c){k:Nat}(hp:p j=k)(hk:k<o.fs.length){y:Int}
 (hT:Tx D C ms (o.fs[k]?.getD 0) y) (hg:HG A' m G K (updD C j { c with fs:=c.fs.set k y })) (hw: ∀q,¬(c.a≤q∧q<c.e)→A'.wd q=T.A.wd q) (hl:A'.lines=T.A.lines):
 TI D R m cl { T with A:=A' } G K (updD C j { c with fs:=c.fs.set k y }) ms ws (updP p j (k+1)) E:=by
 have he:Ob.e { c with fs:=c.fs.set k y }=c.e:=by simp[Ob.e]
 have hag: ∀i,i≠j→updD C j { c with fs:=c.fs.set k y } i=C i:=fun i hi=>updD_ne _ _ hi
 have hmono: ∀i ci,i∈ms→C i=some ci→∃c',updD C j { c with fs:=c.fs.set k y } i=some c'∧c'.a=ci.a:=by
  intro i ci hi hci;by_cases hij:i=j
  ·subst hij;rw[hC]at hci;injection hci with hci
   subst hci;exact⟨_,zY _ _ _,rfl⟩
  ·exact⟨ci,by rw[hag i hij];exact hci,rfl⟩
 obtain⟨c2,hC2,hcu,_⟩:=h.dc j o hD;rw[hC]at hC2;injection hC2 with hC2
 subst hC2;refine⟨hg, ?_, ?_, ?_,h.nd,h.md,h.wn,h.wm,h.lv,h.m0,h.m1, ?_,h.cz,h.sl, ?_, ?_, ?_, ?_, ?_⟩
 ·intro i ci hci;by_cases hij:i=j
  ·subst hij;exact⟨_,hD⟩
  ·rw[hag i hij]at hci;exact h.cd i ci hci
 ·intro i oi hoi;by_cases hij:i=j
  ·subst hij;rw[hD]at hoi;injection hoi with hoi
   subst hoi;refine⟨_,zY _ _ _,⟨hcu.k,hcu.q,by simpa using hcu.l, ?_, ?_⟩,fun hn=>absurd hjm hn⟩
   ·intro q hq hq2;simp only[updP,if_true]at hq;simp only;by_cases hqk:q=k
    ·subst hqk;rw[List.getElem?_set_self (by rw[hcu.l];omega)];exact hT.mono (fun _ h=>h) hmono
    ·rw[List.getElem?_set_ne (Ne.symm hqk)];exact(hcu.a q (by omega) hq2).mono (fun _ h=>h) hmono
   ·intro q hq;simp only[updP,if_true]at hq;simp only;rw[List.getElem?_set_ne (by omega)];exact hcu.b q (by omega)
  ·obtain⟨ci,a1,a2,a3⟩:=h.dc i oi hoi;have e:updP p j (k+1) i=p i:=by simp[updP,hij]
   rw[e];exact⟨ci,by rw[hag i hij];exact a1,a2.mono (fun _ h=>h) hmono,a3⟩
 ·intro i oi ci hoi hci hne
  have key: ∃ci',C i=some ci'∧ci'.a=ci.a∧ci'.pins=ci.pins:=by
   by_cases hij:i=j
   ·subst hij;rw[zY]at hci;injection hci with hci
    subst hci;exact⟨c,hC,rfl,rfl⟩
   ·rw[hag i hij]at hci;exact⟨ci,hci,rfl,rfl⟩
  obtain⟨ci',k1,k2,k3⟩:=key;obtain⟨b1,b2,b3,b4⟩:=h.fw i oi ci' hoi k1 (by rw[k2];exact hne);refine⟨by simp only;rw[hw _ (b4 j c hC),←k2];exact b1,b2,by rw[←k3];exact b3, ?_⟩;intro q cq hq;by_cases hqj:q=j
  ·subst hqj;rw[zY]at hq;injection hq with hq
   subst hq;rw[he];exact b4 q c hC
  ·rw[hag q hqj]at hq;exact b4 q cq hq
 ·intro hz i oi ci hoi hci;by_cases hij:i=j
  ·subst hij;rw[zY]at hci;injection hci with hci
   subst hci;exact h.mz hz i oi c hoi hC
  ·rw[hag i hij]at hci;exact h.mz hz i oi ci hoi hci
 ·intro a ha;rw[ex_upd (c':={ c with fs:=c.fs.set k y }) hC rfl he (fun x _=>x=a)];exact h.sn a ha
 ·intro i hi;simp only;rw[hl,ex_upd (c':={ c with fs:=c.fs.set k y }) hC rfl he (fun x y=>x/16≤i∧i≤(y-1)/16)];exact h.mr i hi
 ·simp only;rw[h.wk];apply List.map_congr_left;intro i hi;rw[hag i (fun hij=>hjw (hij▸hi))]
 ·intro i hi;have:i≠j:=fun hij=>hjw (hij▸hi)
  simp only[updP,if_neg this];exact h.p0 i hi
 ·intro i oi hi hn hEi hoi;by_cases hij:i=j
  ·subst hij;exact absurd hE hEi
  ·simp only[updP,if_neg hij];exact h.sc i oi hi hn hEi hoi
def Closed(D:Nat→Option Ob):Prop:= ∀j o i,D j=some o→i<cntO o→o.fs[i]?.getD 0%8≠1∨∃k ok,D k=some ok∧o.fs[i]?.getD 0=pw ok.a
def RCl(D:Nat→Option Ob)(R:Nat→Prop):Prop:= ∀j o i k ok,R j→D j=some o→i<cntO o→D k=some ok→o.fs[i]?.getD 0=pw ok.a→R k
theorem TI.scan1(h:TI D R m cl T G K C ms ws p E)(hcl:Closed D)(hrc:RCl D R){j:Nat}(hjm:j∈ms)(hjw:j∉ws)(hE:E j){o c:Ob}(hD:D j=some o)(hC:C j=some c){k:Nat}(hp:p j=k)(hk:k<cntO o):
 ∃G' C' ns c',TI D R m cl (scan1 cl m (pw c.a) T k) G' K C' (ms++ns) (ws++ns) (updP p j (k+1)) E∧(∀i,i∈ms→i≠j→C' i=C i)∧C' j=some c'∧c'.a=c.a∧j∉ws++ns:=by
 have hkl:k<o.fs.length:=Nat.lt_of_lt_of_le hk (cntO_le o);obtain⟨c2,hC2,hcu,_⟩:=h.dc j o hD;rw[hC]at hC2;injection hC2 with hC2
 subst hC2;have hkc:k<c.fs.length:=by rw[hcu.l];exact hkl
 have hget:=h.hg.get hC k hkc;have hv:c.fs[k]?.getD 0=o.fs[k]?.getD 0:=by rw[hcu.b k (by omega)]
 have hfol:Fol D R (o.fs[k]?.getD 0):=by
  rcases hcl j o k hD hk with h1|⟨q,oq,h1,h2⟩
  ·exact .inl h1
  ·exact .inr ⟨q,oq,h1,h2,hrc j o k q oq (h.md j hjm).2 hD hk h1 h2⟩
 obtain⟨G1,C1,ns,h1,h2,h3⟩:=h.follow _ hfol;have hC1:C1 j=some c:=by rw[h3 j hjm];exact hC
 have hjn:j∉ns:=fun hm=>(List.nodup_append.1 h1.nd).2.2 j hjm j hm rfl
 have hjw2:j∉ws++ns:=by simp only[List.mem_append,not_or];exact⟨hjw,hjn⟩
 unfold Go.Proofs.YtghkahcogphomaaGreat.scan1;rw[hget,hv];simp only;generalize hr:zT cl m T (o.fs[k]?.getD 0)=r at h1 h2;obtain⟨T1,y⟩:=r;simp only at h1 h2⊢;have hset:=h1.hg.set hC1 (k:Int) y;by_cases hy:y=o.fs[k]?.getD 0
 ·rw[if_pos hy]
  have hsame:({ c with fs:=c.fs.set k y }:Ob)=c:=by
   have:c.fs.set k y=c.fs:=by
    rw[hy,←hv,List.getElem?_eq_getElem hkc];exact List.set_getElem_self hkc
   rw[this]
  have h4:=h1.setp (A':=T1.A) (by simp[hjm]) hjw2 hE hD hC1 hp hkl h2 (by rw[hsame,updD_same hC1];exact h1.hg) (fun _ _=>rfl) rfl;rw[hsame,updD_same hC1]at h4;exact⟨G1,C1,ns,c,h4,fun i hi hij=>h3 i hi,hC1,rfl,hjw2⟩
 ·rw[if_neg hy]
  have hyw:0≤y∧y<18446744073709551616:=by
   rcases h2 with⟨_,h2⟩|⟨q,oq,cq,_,_,_,h5,h6⟩
   ·exact absurd h2 hy
   ·rw[h6];exact h1.hg.pwb h5
  have hset:=hset hyw.1 hyw.2;rw[if_pos ⟨by omega,by omega⟩,Int.toNat_natCast]at hset;have h4:=h1.setp (by simp[hjm]) hjw2 hE hD hC1 hp hkl h2 hset.2 (fun q hq=>h1.hg.set_wd hC1 _ _ q hq) (setF_lines _ _ _ _ _);exact⟨G1,_,ns,_,h4,fun i hi hij=>by rw[updD_ne _ _ hij];exact h3 i hi,zY _ _ _,rfl,hjw2⟩
theorem TI.scanN(h:TI D R m cl T G K C ms ws p E)(hcl:Closed D)(hrc:RCl D R){j:Nat}(hjm:j∈ms)(hjw:j∉ws)(hE:E j){o c:Ob}(hD:D j=some o)(hC:C j=some c)(hp:p j=0)(k:Nat)(hk:k≤cntO o):
 ∃G' C' ns p' c',TI D R m cl (scanN cl m (pw c.a) T k) G' K C' (ms++ns) (ws++ns) p' E∧(∀i,i∈ms→i≠j→C' i=C i)∧C' j=some c'∧c'.a=c.a∧j∉ws++ns∧p' j=k:=by
 induction k with
 |zero=>exact⟨G,C,[],p,c,by simpa[Go.Proofs.YtghkahcogphomaaGreat.scanN]using h,fun _ _ _=>rfl,hC,rfl,by simpa using hjw,hp⟩
 |succ k ih=>
  obtain⟨G1,C1,n1,p1,c1,h1,h2,h3,h4,h5,h6⟩:=ih (by omega);obtain⟨G2,C2,n2,c2,k1,k2,k3,k4,k5⟩:=h1.scan1 hcl hrc (by simp[hjm]) h5 hE hD h3 h6 (by omega);refine⟨G2,C2,n1++n2,_,c2,by simpa[Go.Proofs.YtghkahcogphomaaGreat.scanN,h4]using k1,fun i hi hij=>by rw[k2 i (by simp[hi]) hij,h2 i hi hij],k3,by rw[k4,h4],by simpa using k5,by simp[updP]⟩
theorem TI.scan(h:TI D R m cl T G K C ms ws p fun _=>False)(hcl:Closed D)(hrc:RCl D R){j:Nat}{ws':List Nat}(hws:ws=ws'++[j]):
 ∃o c,D j=some o∧C j=some c∧T.work=ws'.map (fun j=>pw (((C j).map Ob.a).getD 0))++[pw c.a]∧countedF T.A m (pw c.a)=cntO o∧
  (∀k,k≤cntO o→∃G' C' ns p' c',TI D R m cl (Go.Proofs.YtghkahcogphomaaGreat.scanN cl m (pw c.a) { T with work:=ws'.map fun j=>pw (((C j).map Ob.a).getD 0)} k) G' K C' (ms++ns) (ws'++ns) p' (fun i=>i=j)∧(∀i,i∈ms→i≠j→C' i=C i)∧C' j=some c'∧c'.a=c.a∧p' j=k)∧j∈ms:=by
 subst hws;have hjm:j∈ms:=h.wm j (by simp);have hjw:j∉ws':=fun hm=>(List.nodup_append.1 h.wn).2.2 j hm j (by simp) rfl
 obtain⟨⟨o,hD⟩,hR⟩:=h.md j hjm;obtain⟨c,hC,hcu,_⟩:=h.dc j o hD;have hp0:=h.p0 j (by simp)
 have hfs:c.fs=o.fs:=by
  apply List.ext_getElem?;intro i;exact hcu.b i (by omega)
 refine⟨o,c,hD,hC,by rw[h.wk];simp[hC], ?_, ?_,hjm⟩
 ·unfold countedF;rw[szI_ob h.hg hC];have hkd:kdI T.A m (pw c.a)=c.kind:=by unfold kdI;rw[h.hg.hat hC];rfl
  rw[hkd];unfold cntO;rw[←hfs,←hcu.k]
  have hb:0≤countF c.kind c.fs.length (c.fs[1]?.getD 0):=by
   unfold countF;split
   ·omega
   ·split
    ·omega
    ·split
     ·omega
     ·omega
  rw[Int.toNat_of_nonneg hb];rcases Nat.lt_or_ge 1 c.fs.length with h1|h1
  ·have:=h.hg.get hC 1 h1;rw[show((1:Nat):Int)=1 from rfl]at this;rw[this]
  ·have:=h.hg.get_out hC 1 (by omega);rw[this];unfold countF;split
   ·rfl
   ·rw[if_pos (.inr (by omega)),if_pos (.inr (by omega))]
 ·have h0:TI D R m cl { T with work:=ws'.map fun j=>pw (((C j).map Ob.a).getD 0)} G K C ms ws' p (fun i=>i=j):=
   ⟨h.hg,h.cd,h.dc,h.fw,h.nd,h.md,(List.nodup_append.1 h.wn).1,fun i hi=>h.wm i (by simp[hi]),h.lv,h.m0,h.m1,h.mz,h.cz,h.sl,h.sn,h.mr,rfl,fun i hi=>h.p0 i (by simp[hi]),fun i oi hi hn hE hoi=>h.sc i oi hi (by simp only[List.mem_append,List.mem_singleton,not_or];exact⟨hn,hE⟩) (fun h=>h) hoi⟩
  intro k hk;obtain⟨G1,C1,n1,p1,c1,h1,h2,h3,h4,h5,h6⟩:=h0.scanN hcl hrc hjm hjw rfl hD hC hp0 k hk;exact⟨G1,C1,n1,p1,c1,h1,h2,h3,h4,h6⟩
theorem TI.drain(hN: ∀j o,D j=some o→j<N)(hN2:N≤1000000)(hcl:Closed D)(hrc:RCl D R)(f:Nat):
 ∀{T:Tr} {G:List Bool} {C:Nat→Option Ob} {ms ws:List Nat} {p:Nat→Nat},TI D R m cl T G K C ms ws p (fun _=>False)→2*(N-ms.length)+ws.length≤f→
 ∃k T' G' C' ms' p',Drains cl m k T T'∧TI D R m cl T' G' K C' ms' [] p' (fun _=>False)∧(∀j,j∈ms→j∈ms')∧∀j c,j∈ms→C j=some c→∃c',C' j=some c'∧c'.a=c.a:=by
 induction f with
 |zero=>
  intro T G C ms ws p h hf;have hw:ws=[]:=List.length_eq_zero_iff.1 (by omega);subst hw;exact⟨0,T,G,C,ms,p,.done T (by rw[h.wk];rfl),h,fun _ h=>h,fun j c _ hc=>⟨c,hc,rfl⟩⟩
 |succ f ih=>
  intro T G C ms ws p h hf;rcases List.eq_nil_or_concat ws with hw|⟨ws',j,hw⟩
  ·subst hw;exact⟨0,T,G,C,ms,p,.done T (by rw[h.wk];rfl),h,fun _ h=>h,fun j c _ hc=>⟨c,hc,rfl⟩⟩
  ·rw[List.concat_eq_append]at hw;have hl:=h.len hN;obtain⟨o,c,hD,hC,hwk,hcn,hsc,hjm⟩:=h.scan hcl hrc hw;obtain⟨G1,C1,n1,p1,c1,h1,h2,h3,h4,h6⟩:=hsc (cntO o) (Nat.le_refl _)
   have hfin:TI D R m cl (Go.Proofs.YtghkahcogphomaaGreat.scanN cl m (pw c.a) { T with work:=ws'.map fun j=>pw (((C j).map Ob.a).getD 0)} (cntO o)) G1 K C1 (ms++n1) (ws'++n1) p1 (fun _=>False):=
    ⟨h1.hg,h1.cd,h1.dc,h1.fw,h1.nd,h1.md,h1.wn,h1.wm,h1.lv,h1.m0,h1.m1,h1.mz,h1.cz,h1.sl,h1.sn,h1.mr,h1.wk,h1.p0,fun i oi hi hn _ hoi=>by
      by_cases hij:i=j
      ·subst hij;rw[hD]at hoi;injection hoi with hoi
       subst hoi;omega
      ·exact h1.sc i oi hi hn hij hoi⟩
   have hl1:=hfin.len hN;simp only[List.length_append]at hl1;obtain⟨k,T',G',C',ms',p',k1,k2,k3,k4⟩:=ih hfin (by simp only[List.length_append];rw[hw]at hf;simp only[List.length_append,List.length_cons,List.length_nil]at hf;omega);refine⟨k+1,T',G',C',ms',p',.step k T (pw c.a) (ws'.map fun j=>pw (((C j).map Ob.a).getD 0)) T' hwk ?_ ?_ ?_,k2,fun i hi=>k3 i (by simp[hi]), ?_⟩
   ·rw[h.wk,List.length_map];omega
   ·intro q hq;rw[hcn]at hq;obtain⟨G2,C2,n2,p2,c2,q1,_⟩:=hsc q (by omega);exact q1.bd hN hN2
   ·unfold scanT;have:countedF { T with work:=ws'.map fun j=>pw (((C j).map Ob.a).getD 0)}.A m (pw c.a)=cntO o:=hcn;rw[this,Int.toNat_natCast];exact k1
   ·intro i ci hi hci;by_cases hij:i=j
    ·subst hij;rw[hC]at hci;injection hci with hci
     subst hci;obtain⟨c',q1,q2⟩:=k4 i c1 (by simp[hi]) h3;exact⟨c',q1,by rw[q2,h4]⟩
    ·exact k4 i ci (by simp[hi]) (by rw[h2 i hi hij];exact hci)
end Go.Proofs.YtghkahcogphomaaGreat
namespace Go.Proofs.YtghkahcogphomaaGreat
variable{A A':Ar}{m N:Nat}{G K G' K':List Bool}{D C C':Nat→Option Ob}{T:Tr}{ms:List Nat}{cl:Int→Int}
inductive Reach(D:Nat→Option Ob)(ls:List (List Int)):Nat→Prop
 |root (l:List Int) (x:Int) (j:Nat) (o:Ob):l∈ls→x∈l→D j=some o→x=pw o.a→Reach D ls j
 |field (j:Nat) (o:Ob) (i k:Nat) (ok:Ob):Reach D ls j→D j=some o→i<cntO o→D k=some ok→o.fs[i]?.getD 0=pw ok.a→Reach D ls k
def keptD(C:Nat→Option Ob)(ms:List Nat):Nat→Option Ob:=fun j=>if j∈ms then C j else none
structure After(D:Nat→Option Ob)(m:Nat)(cl:Int→Int)(ls ls':List (List Int))(T:Tr)(G K:List Bool)(C:Nat→Option Ob)(ms:List Nat):Prop where
 hg:HG T.A.sweep m G K (keptD C ms)
 mr: ∀i,i<m*16→mk' T.A.sweep.lines i=false
 nd:ms.Nodup
 md: ∀j,j∈ms↔Reach D ls j
 mo: ∀j,j∈ms→∃o c,D j=some o∧C j=some c∧Cur D C ms (cntO o) o c∧(c.a≠o.a→c.pins=0)
 lv:T.live=ms.length
 m0:0≤T.moved
 m1:T.moved≤T.live
 mz:T.moved=0→∀j o c,D j=some o→C j=some c→c.a=o.a
 cz:(∀x,cl x=0)→T.moved=0
 rl:ls'.length=ls.length
 rt: ∀r,r<ls.length→Rel2 (Tx D C ms) (ls[r]?.getD []) (ls'[r]?.getD [])
 em:m≤zW T.A.sweep.lines m+ms.length
theorem freeIn_full2(l:List (Bool×Bool))(o n:Nat)(hl:o+n≤l.length)(h: ∀i,o≤i→i<o+n→tk l i=false):freeIn l o n=n:=by
 induction n with
 |zero=>simp[freeIn]
 |succ n ih=>
  rw[freeIn_add,ih (by omega) (fun i a b=>h i a (by omega))];have h1:=h (o+n) (by omega) (by omega);have h2:o+n<l.length:=by omega
  unfold freeIn;rw[List.drop_eq_getElem_cons h2];unfold tk at h1;rw[List.getElem?_eq_getElem h2]at h1;simp only[Option.getD_some]at h1;rw[List.take_succ_cons,List.take_zero,List.countP_cons,List.countP_nil,h1]
  simp
theorem empty_blocks(l:List (Bool×Bool))(m:Nat)(hl:l.length=m*16)(ms:List Nat)(B:Nat→Nat)(h: ∀i,i<m*16→tk l i=true→∃j,j∈ms∧B j=i/16)(k:Nat)(hk:k≤m):
 k≤zW l k+ms.countP fun j=>decide (B j<k):=by
 induction k with
 |zero=>omega
 |succ k ih=>
  have ih:=ih (by omega);simp only[zW]
  have hle: ∀ms:List Nat,ms.countP (fun j=>decide (B j<k))+ms.countP (fun j=>decide (B j=k))=ms.countP fun j=>decide (B j<k+1):=by
   intro ms
   induction ms with
   |nil=>rfl
   |cons x ms ih=>
    simp only[List.countP_cons]
    have h1:(if decide (B x<k+1)=true then 1 else 0)=(if decide (B x<k)=true then 1 else 0)+if decide (B x=k)=true then 1 else 0:=by
     simp only[decide_eq_true_eq];split<;>split<;>split<;>omega
    omega
  have hms:=hle ms;by_cases hf:freeOf l k=16
  ·rw[if_pos hf];omega
  ·rw[if_neg hf]
   have: ∃i,k*16≤i∧i<k*16+16∧tk l i=true:=by
    apply Classical.byContradiction;intro hn;apply hf;refine freeIn_full2 l (k*16) 16 (by omega) (fun i a b=> ?_);cases ht:tk l i with
    |false=>rfl
    |true=>exact absurd ⟨i,a,b,ht⟩ hn
   obtain⟨i,a,b,ht⟩:=this;obtain⟨j,hj,hB⟩:=h i (by omega) ht;have:0<ms.countP fun j=>decide (B j=k):=List.countP_pos_iff.2 ⟨j,hj,by simp;omega⟩
   omega
theorem tk_sweep(A:Ar)(i:Nat)(hi:i<A.lines.length):tk A.sweep.lines i=mk' A.lines i:=by
 simp[tk,mk',Ar.sweep,hi]
theorem collect_law(h:HG A m G K D)(hmk: ∀i,i<m*16→mk' A.lines i=false)(hN: ∀j o,D j=some o→j<N)(hN2:N≤1000000)(hcl:Closed D)(cl:Int→Int)(least:Int)(ls:List (List Int))
 (hl: ∀l,l∈ls→∀x,x∈l→x%8≠1∨∃j o,D j=some o∧x=pw o.a) (hw: ∀l,l∈ls→∀x,x∈l→0≤x∧x<18446744073709551616):
 ∃T ls' G' K' C ms,Runs cl m (startT A m least) ls T ls'∧After D m cl ls ls' T G' K' C ms:=by
 have hrc:RCl D (Reach D ls):=fun j o i k ok h1 h2 h3 h4 h5=> .field j o i k ok h1 h2 h3 h4 h5
 have h0:TI D (Reach D ls) m cl (startT A m least) G K D [] [] (fun _=>0) (fun _=>False):=by
  refine⟨h,fun j c hc=>⟨c,hc⟩,fun j o ho=>⟨o,ho,⟨rfl,rfl,rfl,fun i hi=>by omega,fun _ _=>rfl⟩,fun _=>⟨rfl,rfl⟩⟩, ?_,by simp,by simp,by simp,by simp,rfl,by simp[startT],by simp[startT], ?_,fun _=>rfl,by simp[startT,zS], ?_, ?_,rfl,by simp,by simp⟩
  ·intro j o c ho hc hne;rw[ho]at hc;injection hc with hc
   exact absurd (by rw[hc]) hne
  ·intro _ j o c ho hc;rw[ho]at hc;injection hc with hc
   rw[hc]
  ·intro a ha;simp[startT,zS,ha]
  ·intro i hi;have:=hmk i hi;simp[startT,this]
 have hfol: ∀l,l∈ls→∀x,x∈l→Fol D (Reach D ls) x:=by
  intro l hl1 x hx;rcases hl l hl1 x hx with h1|⟨j,o,h1,h2⟩
  ·exact .inl h1
  ·exact .inr ⟨j,o,h1,h2,.root l x j o hl1 hx h1 h2⟩
 obtain⟨b1,G1,C1,n1,h1,h2,h3⟩:=h0.followR hN hN2 ls hfol hw;simp only[List.nil_append]at h1 h2;obtain⟨k,T,G2,C2,ms,p2,k1,k2,k3,k4⟩:=TI.drain hN hN2 hcl hrc _ h1 (Nat.le_refl _)
 have hmo: ∀j,j∈ms→∃o c,D j=some o∧C2 j=some c∧Cur D C2 ms (cntO o) o c∧(c.a≠o.a→c.pins=0):=by
  intro j hj;obtain⟨⟨o,ho⟩,_⟩:=k2.md j hj;obtain⟨c,hc,hcu,_⟩:=k2.dc j o ho;rw[k2.sc j o hj (by simp) (fun h=>h) ho]at hcu;exact⟨o,c,ho,hc,hcu,fun hne=>(k2.fw j o c ho hc hne).2.2.1⟩
 have hrt: ∀r,r<ls.length→Rel2 (Tx D C2 ms) (ls[r]?.getD []) ((followR cl m (startT A m least) ls).2[r]?.getD []):=fun r hr=>⟨(h2 r hr).1,fun i hi=>((h2 r hr).2 i hi).mono k3 k4⟩
 have hsw:HG T.A.sweep m (List.replicate (m*256) false) (T.A.lines.map (·.2)) (keptD C2 ms):=k2.hg.sweep fun j c hc=>by
  unfold keptD at hc;split at hc
  ·rename_i hj
   refine⟨hc,fun i a b=> ?_⟩;have:=(k2.hg.ob j c hc).b;have:=c.ee;exact(k2.mr i (by omega)).2 ⟨j,c,hj,hc,a,b⟩
  ·simp at hc
 refine⟨T,_,_,_,C2,ms,⟨b1,rfl,k,k1⟩,hsw, ?_,k2.nd, ?_,hmo,k2.lv,k2.m0,k2.m1,k2.mz,k2.cz,len_followR _ _ _ _,hrt, ?_⟩
 ·intro i hi;exact sweep_mk _ _ (by rw[k2.hg.inv.ok.ll];exact hi)
 ·intro j;refine⟨fun hj=>(k2.md j hj).2,fun hr=> ?_⟩
  induction hr with
  |root l x j o a1 a2 a3 a4=>
   obtain⟨r,hr,hrl⟩:=List.getElem_of_mem a1;obtain⟨i,hi,hil⟩:=List.getElem_of_mem a2;have:=(hrt r hr).2 i (by rw[List.getElem?_eq_getElem hr,Option.getD_some,hrl];exact hi);rw[List.getElem?_eq_getElem hr,Option.getD_some,hrl,List.getElem?_eq_getElem hi,Option.getD_some,hil]at this;rcases this with⟨t1,_⟩|⟨q,oq,cq,t1,t2,t3,_⟩
   ·rw[a4,pw_mod]at t1;exact absurd rfl t1
   ·have hqa:oq.a=o.a:=pw_inj (t2.symm.trans a4)
    have:q=j:=by
     apply Classical.byContradiction;intro hne;have e1:=oq.ee;have e2:=o.ee;exact h.ap q j oq o hne t1 a3 o.a (by omega) (by omega) (by omega) (by omega)
    rw[←this];exact t3
  |field j o i q oq a1 a2 a3 a4 a5 ih=>
   obtain⟨o',c,b1,b2,b3,b4⟩:=hmo j ih;rw[a2]at b1;injection b1 with b1
   subst b1;have hlen:=cntO_le o;rcases b3.a i a3 (by omega)with⟨t1,_⟩|⟨u,ou,cu,t1,t2,t3,_⟩
   ·rw[a5,pw_mod]at t1;exact absurd rfl t1
   ·have hqa:ou.a=oq.a:=pw_inj (t2.symm.trans a5)
    have:u=q:=by
     apply Classical.byContradiction;intro hne;have e1:=ou.ee;have e2:=oq.ee;exact h.ap u q ou oq hne t1 a4 oq.a (by omega) (by omega) (by omega) (by omega)
    rw[←this];exact t3
 ·have hll:=k2.hg.inv.ok.ll
  have h5:=empty_blocks T.A.sweep.lines m (by simp[Ar.sweep,hll]) ms (fun j=>(((C2 j).map Ob.a).getD 0)/256) (fun i hi ht=>by
   rw[tk_sweep _ _ (by omega)]at ht;obtain⟨j,c,c1,c2,c3,c4⟩:=(k2.mr i hi).1 ht;have hbk:=(k2.hg.ob j c c2).bk;have:=c.ee;refine⟨j,c1, ?_⟩;simp only[c2,Option.map_some,Option.getD_some];omega) m (Nat.le_refl _)
  have:=List.countP_le_length (p:=fun j=>decide ((((C2 j).map Ob.a).getD 0)/256<m)) (l:=ms);omega
end Go.Proofs.YtghkahcogphomaaGreat
namespace Go.Proofs.YtghkahcogphomaaGreat
variable{A A':Ar}{m N:Nat}{G K G' K':List Bool}{D C C':Nat→Option Ob}{T:Tr}{ms:List Nat}{cl:Int→Int}{ls ls':List (List Int)}
theorem HG.makeS(h:HG A m G K D){kind n x:Int}(hx:(makeF A m kind n).2=some x){j:Nat}(hj:D j=none):
 ∃(G':List Bool) (a:Nat),x=pw a∧0≤n∧n≤240∧0≤kind∧kind<32∧HG (makeF A m kind n).1 m G' K (updD D j ⟨a,kind.toNat,0,List.replicate n.toNat (ZD kind)⟩):=by
 have:=(h.make kind n hj).2;rw[hx]at this;obtain⟨⟨a,k,p,fs⟩,G',h1,h2,h3,h4,h5,h6,h7,h8,h9⟩:=this;simp only at h1 h6 h7 h8;subst h6 h7 h8;exact⟨G',a,h1,h2,h3,h4,h5,h9⟩
theorem HG.setS(h:HG A m G K D){j:Nat}{o:Ob}(ho:D j=some o)(i:Nat)(hi:i<o.fs.length){v:Int}(v0:0≤v)(v1:v<18446744073709551616):
 (setF A m (pw o.a) i v).2=0∧HG (setF A m (pw o.a) i v).1 m G K (updD D j { o with fs:=o.fs.set i v }):=by
 have:=h.set ho (i:Int) v v0 v1;rw[if_pos ⟨by omega,by omega⟩,Int.toNat_natCast]at this;exact this
def Unmarked(A:Ar)(m:Nat):Prop:= ∀i,i<m*16→mk' A.lines i=false
theorem Unmarked.start(m:Nat):Unmarked (Ar.new m) m:=fun i hi=>by
 simp[mk',Ar.new,clear,hi]
theorem Unmarked.make(h:Unmarked A m)(hg:HG A m G K D)(kind n:Int){j:Nat}(hj:D j=none):Unmarked (makeF A m kind n).1 m:=fun i hi=>by rw[(hg.make kind n hj).1];exact h i hi
theorem Unmarked.set(h:Unmarked A m)(x i v:Int):Unmarked (setF A m x i v).1 m:=fun q hq=>by rw[setF_lines];exact h q hq
def cntB(f:Nat→Bool):Nat→Nat
 |0=>0
 |n+1=>cntB f n+if f n then 1 else 0
theorem len_count(f:Nat→Bool)(N:Nat)(l:List Nat)(hn:l.Nodup)(hl: ∀j,j∈l↔j<N∧f j=true):l.length=cntB f N:=by
 induction N generalizing l with
 |zero=>
  cases l with
  |nil=>rfl
  |cons x l=>have:=((hl x).1 (by simp)).1;omega
 |succ N ih=>
  simp only[cntB];by_cases hN:f N=true
  ·have hm:N∈l:=(hl N).2 ⟨by omega,hN⟩
   have h1:=ih (l.erase N) (hn.erase N) (fun j=>by
    rw[hn.mem_erase_iff,hl];constructor
    ·rintro⟨a,b,c⟩;exact⟨by omega,c⟩
    ·rintro⟨b,c⟩;exact⟨by omega,by omega,c⟩)
   rw[List.length_erase_of_mem hm]at h1;rw[if_pos hN,←h1];have:=List.length_pos_of_mem hm;omega
  ·rw[if_neg hN];refine ih l hn (fun j=> ?_);rw[hl];constructor
   ·rintro⟨b,c⟩;refine⟨?_,c⟩;have:j≠N:=fun he=>hN (he▸c)
    omega
   ·rintro⟨b,c⟩;exact⟨by omega,c⟩
theorem HG.uniq(h:HG A m G K D){i j:Nat}{o p:Ob}(ho:D i=some o)(hp:D j=some p)(he:o.a=p.a):i=j:=by
 apply Classical.byContradiction;intro hne;have e1:=o.ee;have e2:=p.ee;exact h.ap i j o p hne ho hp p.a (by omega) (by omega) (by omega) (by omega)
theorem Tx.non{x y:Int}(h:Tx D C ms x y)(hx:x%8≠1):y=x:=by
 rcases h with⟨_,h⟩|⟨k,ok,ck,_,h3,_⟩
 ·exact h
 ·exact absurd (by rw[h3];exact pw_mod _) hx
end Go.Proofs.YtghkahcogphomaaGreat
end
