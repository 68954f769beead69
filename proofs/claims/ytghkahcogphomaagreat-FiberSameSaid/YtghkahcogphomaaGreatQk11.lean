/- Fibers: a part of the walk. No condition. -/
import Derived.Test.YtghkahcogphomaaGreatQk06
import Derived.Deep.AppendLies
set_option linter.all false
namespace Go.Proofs.YtghkahcogphomaaGreat
section
variable{A A':Ar}{m:Nat}{G K G' K':List Bool}{D:Nat→Option Ob}
def own(G K:List Bool)(i:Nat):Prop:=G[i]?.getD false=true∨K[i/16]?.getD false=true
structure ObG(A:Ar)(m:Nat)(P:Nat→Prop)(o:Ob):Prop where
 k:o.kind<32
 p:o.pins≤7
 n:o.fs.length≤240
 b:o.e≤m*256
 hd:A.wd o.a=hdW o.kind o.pins o.fs.length
 fd: ∀(i:Nat) (x:Int),o.fs[i]? =some x→A.wd (o.a+1+i)=x
 gv: ∀i:Nat,o.a≤i→i<o.e→P i
 bk:o.a/256=(o.e-1)/256
theorem ObG.ok{P:Nat→Prop}{o:Ob}(h:ObG A m P o):ObOk A m (List.replicate (m*256) true) o:=
 ⟨h.k,h.p,h.n,h.b,h.hd,h.fd,fun i _ hi=>by have:=h.b;rw[List.getElem?_replicate,if_pos (by omega)];rfl⟩
theorem ObG.keep{P P':Nat→Prop}{o:Ob}(h:ObG A m P o)(hs: ∀i,o.a≤i→i<o.e→A'.wd i=A.wd i)(hg: ∀i:Nat,o.a≤i→i<o.e→P i→P' i):ObG A' m P' o:=by
 refine⟨h.k,h.p,h.n,h.b, ?_, ?_,fun i a b=>hg _ a b (h.gv i a b),h.bk⟩
 ·rw[hs o.a (by omega) (by rw[o.ee];omega)];exact h.hd
 ·intro i x hx
  have hi:i<o.fs.length:=by
   rcases Nat.lt_or_ge i o.fs.length with h|h
   ·exact h
   ·rw[List.getElem?_eq_none h]at hx;simp at hx
  rw[hs _ (by omega) (by rw[o.ee];omega)];exact h.fd i x hx
structure HG(A:Ar)(m:Nat)(G K:List Bool)(D:Nat→Option Ob):Prop where
 inv:AInv A m G K (fz (m*16))
 wd:A.Wd
 ob: ∀(j:Nat) (o:Ob),D j=some o→ObG A m (own G K) o
 ap: ∀(i j:Nat) (o p:Ob),i≠j→D i=some o→D j=some p→Apart o.a o.e p.a p.e
def updD(D:Nat→Option Ob)(j:Nat)(o:Ob):Nat→Option Ob:=fun i=>if i=j then some o else D i
theorem zY(D:Nat→Option Ob)(j:Nat)(o:Ob):updD D j o j=some o:=by simp[updD]
theorem updD_ne(D:Nat→Option Ob)(o:Ob){i j:Nat}(h:i≠j):updD D j o i=D i:=by simp[updD,h]
theorem updD_same{D:Nat→Option Ob}{j:Nat}{o:Ob}(h:D j=some o):updD D j o=D:=by
 funext i
 unfold updD;split
 ·rename_i hi;subst hi;exact h.symm
 ·rfl
theorem HG.still(h:HG A m G K D)(inv:AInv A' m G' K' (fz (m*16)))(wd:A'.Wd)(hs: ∀i,A'.wd i=A.wd i)(hg: ∀i,own G K i→own G' K' i):HG A' m G' K' D:=
 ⟨inv,wd,fun j o ho=>(h.ob j o ho).keep (fun i _ _=>hs i) (fun i _ _=>hg i),h.ap⟩
theorem HG.upd(h:HG A m G K D)(j:Nat)(o:Ob)(inv:AInv A' m G' K' (fz (m*16)))(wd:A'.Wd)(ho:ObG A' m (own G' K') o)
 (hs: ∀(i:Nat) (p:Ob),i≠j→D i=some p→∀q,p.a≤q→q<p.e→A'.wd q=A.wd q) (hg: ∀i,own G K i→own G' K' i)
 (hap: ∀(i:Nat) (p:Ob),i≠j→D i=some p→Apart o.a o.e p.a p.e):HG A' m G' K' (updD D j o):=by
 refine⟨inv,wd, ?_, ?_⟩
 ·intro i p hp;by_cases hi:i=j
  ·subst hi;rw[zY]at hp;injection hp with hp
   subst hp;exact ho
  ·rw[updD_ne _ _ hi]at hp;exact(h.ob i p hp).keep (hs i p hi hp) (fun i _ _=>hg i)
 ·intro i k p q hik hp hq;by_cases hi:i=j
  ·subst hi;rw[updD_ne _ _ (Ne.symm hik)]at hq;rw[zY]at hp;injection hp with hp
   subst hp;exact hap k q (Ne.symm hik) hq
  ·rw[updD_ne _ _ hi]at hp;by_cases hk:k=j
   ·subst hk;rw[zY]at hq;injection hq with hq
    subst hq;exact(hap i p hi hp).symm
   ·rw[updD_ne _ _ hk]at hq;exact h.ap i k p q hik hp hq
theorem HG.hat(h:HG A m G K D){j:Nat}{o:Ob}(ho:D j=some o):hAt A m (pw o.a)=some ⟨o.a,o.kind,o.pins,o.fs.length⟩:=hAt_ob (h.ob j o ho).ok
theorem HG.pwb(h:HG A m G K D){j:Nat}{o:Ob}(ho:D j=some o):0≤pw o.a∧pw o.a<18446744073709551616:=pw_bd h.inv.ok (h.ob j o ho).ok
theorem HG.in(h:HG A m G K D){j:Nat}{o:Ob}(ho:D j=some o):o.e≤A.words.length:=by
 have:=(h.ob j o ho).b;rw[h.inv.ok.wl];exact this
theorem HG.get(h:HG A m G K D){j:Nat}{o:Ob}(ho:D j=some o)(i:Nat)(hi:i<o.fs.length):getF A m (pw o.a) i=(o.fs[i]?.getD 0,0):=by
 have hk:=h.ob j o ho;unfold getF;rw[h.hat ho];have he:=o.ee;have:=hk.b;simp only;rw[if_neg (by omega)];have:=hk.fd i (o.fs[i]) (by simp[hi]);rw[Int.toNat_natCast,this];simp[hi]
theorem HG.get_out(h:HG A m G K D){j:Nat}{o:Ob}(ho:D j=some o)(i:Int)(hi:i<0∨(o.fs.length:Int)≤i):getF A m (pw o.a) i=(0,151):=by
 unfold getF;rw[h.hat ho];simp only;rw[if_pos (by omega)]
theorem HG.own_lt(h:HG A m G K D){q:Nat}(hq:own G K q):q<m*256:=by
 rcases Nat.lt_or_ge q (m*256)with h1|h1
 ·exact h1
 ·have gl:=h.inv.gl;have kl:=h.inv.kl;rcases hq with f2|f2
  ·rw[List.getElem?_eq_none (by omega)]at f2;simp at f2
  ·rw[List.getElem?_eq_none (by omega)]at f2;simp at f2
theorem setF_lines(A:Ar)(m:Nat)(x i v:Int):(setF A m x i v).1.lines=A.lines:=by
 unfold setF;cases hAt A m x with
 |none=>rfl
 |some o=>simp only;split<;>rfl
theorem HG.set_wd(h:HG A m G K D){j:Nat}{o:Ob}(ho:D j=some o)(i v:Int)(q:Nat)(hq: ¬(o.a≤q∧q<o.e)):(setF A m (pw o.a) i v).1.wd q=A.wd q:=by
 have he:=o.ee;unfold setF;rw[h.hat ho];simp only;split
 ·rfl
 ·rw[wd_set,if_neg (by omega)]
theorem HG.set(h:HG A m G K D){j:Nat}{o:Ob}(ho:D j=some o)(i:Int)(v:Int)(v0:0≤v)(v1:v<18446744073709551616):
 if 0≤i∧i<o.fs.length then(setF A m (pw o.a) i v).2=0∧HG (setF A m (pw o.a) i v).1 m G K (updD D j { o with fs:=o.fs.set i.toNat v })else(setF A m (pw o.a) i v).2=151∧(setF A m (pw o.a) i v).1=A:=by
 have hat:=h.hat ho;have hk:=h.ob j o ho;have hkb:=hk.b;have hin:=h.in ho;have he:=o.ee;unfold setF;rw[hat];simp only;split
 ·rename_i hc
  rw[if_neg (by omega)];have he2:Ob.e { o with fs:=o.fs.set i.toNat v }=o.e:=by simp[Ob.e]
  refine⟨rfl,h.upd j _ (h.inv.set _ _) (h.wd.set _ _ v0 v1) ?_ ?_ (fun _ h=>h) ?_⟩
  ·refine⟨hk.k,hk.p,by simpa using hk.n,by rw[he2];exact hk.b, ?_, ?_,fun q a b=>hk.gv q a (by rw[he2]at b;exact b),by rw[he2];exact hk.bk⟩
   ·rw[wd_set,if_neg (by simp;omega)];simpa using hk.hd
   ·intro q x hx;simp only at hx⊢;rw[wd_set];by_cases hq:q=i.toNat
    ·subst hq;rw[List.getElem?_set_self (by omega)]at hx;rw[if_pos ⟨rfl,by omega⟩];simpa using hx
    ·rw[List.getElem?_set_ne (by omega)]at hx;rw[if_neg (by omega)];exact hk.fd q x hx
  ·intro q p hq hp r h1 h2;rw[wd_set,if_neg];intro hc2;exact h.ap q j p o hq hp ho r h1 h2 (by omega) (by omega)
  ·intro q p hq hp;have:=h.ap j q o p (Ne.symm hq) ho hp;rw[he2];exact this
 ·rename_i hc
  rw[if_pos (by omega)];exact⟨rfl,rfl⟩
theorem own_ones{a b:Nat}(i:Nat)(h:own G K i):own (ones G a b) K i:=h.elim (fun h=> .inl (ones_mono _ _ _ i h)) .inr
theorem alloc_mk(A:Ar)(m:Nat)(n:Int)(i:Nat):mk' (A.alloc m n).1.lines i=mk' A.lines i:=by
 unfold Ar.alloc;split
 ·rfl
 ·split
  ·unfold Ar.greatA;split
   ·rfl
   ·cases zV A.lines m with
    |some q=>exact mk_claimed _ _ _ _
    |none=>simp only[];cases find A.lines 0 ((n.toNat+15)/16:Nat)with
     |none=>rfl
     |some ft=>exact mk_claimed _ _ _ _
  ·unfold Ar.smallA;split
   ·rfl
   ·cases find A.lines A.next 1 with
    |none=>rfl
    |some ft=>exact mk_claimed _ _ _ _
theorem fresh_mk(A:Ar)(m:Nat)(n:Int)(i:Nat):mk' (A.fresh m n).1.lines i=mk' A.lines i:=by
 unfold Ar.fresh;split
 ·rfl
 ·unfold Ar.freshA;split
  ·rfl
  ·cases zV A.lines m with
   |none=>rfl
   |some q=>exact mk_claimed _ _ _ _
theorem fillW_lines(A:Ar)(p:Nat)(v:Int)(k:Nat):(fillW A p v k).lines=A.lines:=by
 induction k with
 |zero=>rfl
 |succ k ih=>rw[fillW];exact ih
theorem copyW_lines(A:Ar)(a p k:Nat):(copyW A a p k).lines=A.lines:=by
 induction k with
 |zero=>rfl
 |succ k ih=>rw[copyW];exact ih
theorem HG.make(h:HG A m G K D)(kind n:Int){j:Nat}(hj:D j=none):
 (∀i,mk' (makeF A m kind n).1.lines i=mk' A.lines i)∧
 match(makeF A m kind n).2 with
 |none=> ∃G',HG (makeF A m kind n).1 m G' K D
 |some x=> ∃(o:Ob) (G':List Bool),x=pw o.a∧0≤n∧n≤240∧0≤kind∧kind<32∧o.kind=kind.toNat∧o.fs=List.replicate n.toNat (ZD kind)∧o.pins=0∧HG (makeF A m kind n).1 m G' K (updD D j o):=by
 unfold makeF;by_cases hc:kind<0∨32≤kind∨n<0∨240<n
 ·rw[if_pos hc];exact⟨fun _=>rfl,G,h⟩
 rw[if_neg hc];have hg:=h.inv.alloc (n+1);have hw:=alloc_words A m (n+1);unfold GaveOr at hg;cases ha:(A.alloc m (n+1)).2 with
 |none=>
  rw[ha]at hg;exact⟨fun i=>alloc_mk _ _ _ _,G,h.still hg (h.wd.of hw) (zy hw) (fun _ h=>h)⟩
 |some k=>
  rw[ha]at hg;refine⟨fun i=>by simp only[fillW_lines];exact alloc_mk _ _ _ _, ?_⟩;obtain⟨inv,g1,g2,g3,g4,g5⟩:=hg;have hml:=h.inv.ok.m2;have hwl:(A.alloc m (n+1)).1.words.length=m*256:=by rw[hw,h.inv.ok.wl]
  have ev:0≤ZD kind∧ZD kind<18446744073709551616:=by unfold ZD;split<;>omega
  have hgl:=h.inv.gl;refine⟨⟨k,kind.toNat,0,List.replicate n.toNat (ZD kind)⟩,ones G k (k+(n+1).toNat),mkW_pw k (by omega),by omega,by omega,by omega,by omega,rfl,rfl,rfl, ?_⟩
  have hv: ∀q,(fillW (((A.alloc m (n+1)).1).set k (hdW kind 0 n)) (k+1) (ZD kind) n.toNat).wd q=if k+1≤q∧q<k+1+n.toNat then ZD kind else if q=k then hdW kind 0 n else A.wd q:=by
   intro q;rw[wd_fillW _ _ _ _ (by rw[len_set];omega),wd_set,zy hw];by_cases h1:k+1≤q∧q<k+1+n.toNat
   ·rw[if_pos h1,if_pos h1]
   ·rw[if_neg h1,if_neg h1];by_cases h2:q=k
    ·rw[if_pos ⟨h2,by omega⟩,if_pos h2]
    ·rw[if_neg (by omega),if_neg h2]
  have hap: ∀(i:Nat) (p:Ob),D i=some p→Apart k (k+n.toNat+1) p.a p.e:=by
   intro i p hp q a b c d;have:=(h.ob i p hp).gv q c d;have g5:=g5 q a (by omega);unfold own at this;rw[g5.1,g5.2]at this;simp at this
  refine h.upd j _ ((inv.set _ _).fillW _ _ _) (((h.wd.of hw).set _ _ (by unfold hdW;omega) (by unfold hdW;omega)).fillW _ _ ev.1 ev.2 _) ?_ ?_ (fun i hi=>own_ones i hi) ?_
  ·refine⟨by simp only;omega,by simp,by simp;omega,by simp[Ob.e];omega, ?_, ?_, ?_,by simp[Ob.e];omega⟩
   ·rw[hv,if_neg (by simp only;omega),if_pos rfl];simp only[List.length_replicate];unfold hdW;omega
   ·intro i x hx;simp only at hx⊢;rw[List.getElem?_replicate]at hx;split at hx
    ·rw[hv,if_pos (by omega)];simpa using hx
    ·simp at hx
   ·intro i a b;simp only[Ob.e,List.length_replicate]at a b;exact .inl (ones_in _ _ _ i a (by omega) (by omega))
  ·intro i p _ hp q a b;have:=hap i p hp q;rw[hv,if_neg (fun hc=>this (by omega) (by omega) a b),if_neg (fun hc=>this (by omega) (by omega) a b)]
  ·intro i p _ hp;have:=hap i p hp;simpa[Ob.e]using this
theorem HG.move(h:HG A m G K D){j:Nat}{o:Ob}(ho:D j=some o):
 (∀i,mk' (moveF A m (pw o.a)).1.lines i=mk' A.lines i)∧
 match(moveF A m (pw o.a)).2 with
 |none=>HG (moveF A m (pw o.a)).1 m G K D∧∀q,(moveF A m (pw o.a)).1.wd q=A.wd q
 |some x=> ∃(k:Nat) (G':List Bool),x=pw k∧o.pins=0∧HG (moveF A m (pw o.a)).1 m G' K (updD D j { o with a:=k })∧(moveF A m (pw o.a)).1.wd o.a=mkW 7 k∧
   (∀q,own G K q→own G' K q)∧(∀q,own G K q→q≠o.a→(moveF A m (pw o.a)).1.wd q=A.wd q)∧∀q,k≤q→q<k+o.fs.length+1→¬own G K q:=by
 have hat:=h.hat ho;have hk:=h.ob j o ho;have hkb:=hk.b;have hin:=h.in ho;have he:=o.ee;unfold moveF;rw[hat];simp only;by_cases hc:0<o.pins∨240<o.fs.length
 ·rw[if_pos hc];exact⟨fun _=>rfl,h,fun _=>rfl⟩
 rw[if_neg hc];have hg:=h.inv.fresh ((o.fs.length:Int)+1);have hw:=fresh_words A m ((o.fs.length:Int)+1);unfold GaveOr at hg;cases ha:(A.fresh m ((o.fs.length:Int)+1)).2 with
 |none=>
  rw[ha]at hg;exact⟨fun i=>fresh_mk _ _ _ _,h.still hg (h.wd.of hw) (zy hw) (fun _ h=>h),zy hw⟩
 |some k=>
  rw[ha]at hg;refine⟨fun i=>by simp only[Ar.set,copyW_lines];exact fresh_mk _ _ _ _, ?_⟩;obtain⟨inv,g1,g2,g3,g4,g5⟩:=hg;have hml:=h.inv.ok.m2;have hgl:=h.inv.gl;have hwl:(A.fresh m ((o.fs.length:Int)+1)).1.words.length=m*256:=by rw[hw,h.inv.ok.wl]
  have hno: ∀q,k≤q→q<k+o.fs.length+1→¬own G K q:=by
   intro q a b hq;have g5:=g5 q a (by omega);unfold own at hq;rw[g5.1,g5.2]at hq;simp at hq
  have hap: ∀(i:Nat) (p:Ob),D i=some p→Apart k (k+o.fs.length+1) p.a p.e:=fun i p hp q a b c d=>hno q a b ((h.ob i p hp).gv q c d)
  have hself:Apart o.a (o.a+(o.fs.length+1)) k (k+(o.fs.length+1)):=fun q a b c d=>hap j o ho q c (by omega) a (by omega)
  have hv: ∀q,q≠o.a→((copyW (A.fresh m ((o.fs.length:Int)+1)).1 o.a k (o.fs.length+1)).set o.a (mkW 7 k)).wd q=if k≤q∧q<k+(o.fs.length+1)then A.wd (o.a+(q-k))else A.wd q:=by
   intro q hq;rw[wd_set,if_neg (by omega),wd_copyW _ _ _ _ (by omega) hself,zy hw,zy hw]
  have e2:Ob.e { o with a:=k }=k+o.fs.length+1:=rfl;have hka: ∀q,k≤q→q<k+o.fs.length+1→q≠o.a:=fun q a b hq=>hself q (by omega) (by omega) a (by omega)
  have hcl:(copyW (A.fresh m ((o.fs.length:Int)+1)).1 o.a k (o.fs.length+1)).words.length=m*256:=(inv.copyW o.a k (o.fs.length+1)).ok.wl;refine⟨k,ones G k (k+((o.fs.length:Int)+1).toNat),mkW_pw k (by omega),by omega, ?_, ?_,fun q hq=>own_ones q hq, ?_,hno⟩
  ·refine h.upd j _ ((inv.copyW _ _ _).set _ _) (((h.wd.of hw).copyW _ _ _).set _ _ (by unfold mkW;omega) (by unfold mkW;omega)) ?_ ?_ (fun i hi=>own_ones i hi) ?_
   ·refine⟨hk.k,hk.p,hk.n,by rw[e2];omega, ?_, ?_, ?_,by rw[e2];simp only;omega⟩
    ·simp only;rw[hv k (hka k (by omega) (by omega)),if_pos (by omega),show o.a+(k-k)=o.a by omega];exact hk.hd
    ·intro i x hx
     have hi:i<o.fs.length:=by
      rcases Nat.lt_or_ge i o.fs.length with h|h
      ·exact h
      ·simp only at hx;rw[List.getElem?_eq_none h]at hx;simp at hx
     simp only at hx⊢;rw[hv _ (hka _ (by omega) (by omega)),if_pos (by omega),show o.a+(k+1+i-k)=o.a+1+i by omega];exact hk.fd i x hx
    ·intro i a b;rw[e2]at b;simp only at a;exact .inl (ones_in _ _ _ i a (by omega) (by omega))
   ·intro i p hi hp q a b;rw[hv q (fun hq=>h.ap i j p o hi hp ho q a b (by omega) (by omega)),if_neg (fun hc=>hap i p hp q hc.1 (by omega) a b)]
   ·intro i p hi hp;rw[e2];exact hap i p hp
  ·rw[wd_set,if_pos ⟨rfl,by omega⟩]
  ·intro q hq hqa;rw[hv q hqa,if_neg (fun hc=>hno q hc.1 (by omega) hq)]
theorem HG.start{m:Nat}(h1:1≤m)(h2:m≤4096):HG (Ar.new m) m (List.replicate (m*256) false) (List.replicate (m*16) false) fun _=>none:=by
 refine⟨AInv.start h1 h2, ?_,by simp,by simp⟩;intro x hx;simp only[Ar.new,zeros]at hx;rw[List.eq_of_mem_replicate hx];omega
theorem AInv.weak{M:List Bool}(h:AInv A m G K M):AInv A m G K (fz (m*16)):=
 ⟨h.ok,h.inv,h.gl,h.kl,by simp[fz],fun i hi=>by simp only[fz,List.getElem?_replicate]at hi;split at hi<;>simp at hi⟩
theorem mark_eq(A:Ar)(a N:Nat)(h1:1≤N)(h2:a+N≤m*256):A.mark m (a:Int) (N:Int)=A.markL (a/16) ((a+N-1)/16+1):=by
 have hlast:lastOf m (a:Int) (N:Int)=((a+N-1:Nat):Int):=by
  unfold lastOf;split<;>omega
 unfold Ar.mark;rw[if_neg (by rw[hlast];omega)];rw[hlast];rw[show(max (a:Int) 0).toNat=a from by omega];simp only[Int.toNat_natCast]
theorem HG.mark(h:HG A m G K D)(a N:Nat)(h1:1≤N)(h2:a+N≤m*256):
 HG (A.mark m (a:Int) (N:Int)) m G K D∧(∀q,(A.mark m (a:Int) (N:Int)).wd q=A.wd q)∧∀i,mk' (A.mark m (a:Int) (N:Int)).lines i=if a/16≤i∧i≤(a+N-1)/16 then true else mk' A.lines i:=by
 have inv:=(h.inv.mark a N h1 h2).weak;rw[mark_eq A a N h1 h2]at inv⊢;refine⟨h.still inv h.wd (fun _=>rfl) (fun _ h=>h),fun _=>rfl,fun i=> ?_⟩;simp only[Ar.markL,mk_markedL];by_cases hc:a/16≤i∧i≤(a+N-1)/16
 ·rw[if_pos hc,if_pos (by omega)]
 ·rw[if_neg hc,if_neg (by omega)]
theorem HG.sweep(h:HG A m G K D){D':Nat→Option Ob}(hd: ∀j o,D' j=some o→D j=some o∧∀i,o.a/16≤i→i≤(o.e-1)/16→mk' A.lines i=true):
 HG A.sweep m (List.replicate (m*256) false) (A.lines.map (·.2)) D':=by
 have inv:AInv A m G K (A.lines.map (·.2)):=⟨h.inv.ok,h.inv.inv,h.inv.gl,h.inv.kl,by simp[h.inv.ok.ll],fun i hi=>by
  simp only[List.getElem?_map]at hi;unfold mk';cases hl:A.lines[i]? with
  |none=>rw[hl]at hi;simp at hi
  |some x=>rw[hl]at hi;simpa using hi⟩
 refine⟨inv.sweep.weak,h.wd, ?_,fun i j o p hij ho hp=>h.ap i j o p hij (hd i o ho).1 (hd j p hp).1⟩;intro j o ho;obtain⟨h1,h2⟩:=hd j o ho;have hb:=(h.ob j o h1).b;refine(h.ob j o h1).keep (fun i _ _=>rfl) (fun i a b _=> .inr ?_);have hl:i/16<A.lines.length:=by rw[h.inv.ok.ll];omega
 have:=h2 (i/16) (by omega) (by omega);unfold mk' at this;simp only[List.getElem?_map,List.getElem?_eq_getElem hl,Option.map_some,Option.getD_some]at this⊢;exact this
theorem sweep_mk(A:Ar)(i:Nat)(hi:i<A.lines.length):mk' A.sweep.lines i=false:=by
 simp[mk',Ar.sweep,hi]
end
section
section
variable{α:Type}(lt:α→α→Bool)
structure Order:Prop where
 tr: ∀a b c,lt b a=false→lt c b=false→lt c a=false
 asym: ∀a b,lt a b=true→lt b a=false
variable{lt}
theorem Order.rf(h:Order lt)(a:α):lt a a=false:=by
 cases hx:lt a a with
 |false=>rfl
 |true=>have:=h.asym a a hx;rw[hx]at this;exact this
def swapF(g:Nat→α)(i j:Nat):Nat→α:=fun k=>if k=i then g j else if k=j then g i else g k
variable(lt)
def HeapF(g:Nat→α)(n:Nat):Prop:= ∀c,0<c→c<n→lt (g c) (g ((c-1)/2))=false
def UpInv(g:Nat→α)(n j:Nat):Prop:=(∀c,0<c→c<n→c≠j→lt (g c) (g ((c-1)/2))=false)∧(0<j→∀c,0<c→c<n→(c-1)/2=j→lt (g c) (g ((j-1)/2))=false)
def DnInv(g:Nat→α)(n i:Nat):Prop:=(∀c,0<c→c<n→(c-1)/2≠i→lt (g c) (g ((c-1)/2))=false)∧(0<i→∀c,0<c→c<n→(c-1)/2=i→lt (g c) (g ((i-1)/2))=false)
variable{lt}
theorem UpInv.exit{g:Nat→α}{n j:Nat}(h:UpInv lt g n j)(he:0<j→lt (g j) (g ((j-1)/2))=false):HeapF lt g n:=by
 intro c h0 hc;by_cases e:c=j
 ·subst e;exact he h0
 ·exact h.1 c h0 hc e
theorem UpInv.step(ho:Order lt){g:Nat→α}{n j:Nat}(h:UpInv lt g n j)(hj:0<j)(hn:j<n)(hl:lt (g j) (g ((j-1)/2))=true):UpInv lt (swapF g ((j-1)/2) j) n ((j-1)/2):=by
 obtain⟨h1,h2⟩:=h;constructor
 ·intro c c0 cn ci;unfold swapF;rw[if_neg ci];by_cases hc:c=j
  ·subst hc;rw[if_pos rfl,if_pos rfl];exact ho.asym _ _ hl
  ·rw[if_neg hc];by_cases hp:(c-1)/2=(j-1)/2
   ·rw[if_pos hp];have:=h1 c c0 cn hc;rw[hp]at this;exact ho.tr _ _ _ (ho.asym _ _ hl) this
   ·rw[if_neg hp];by_cases hq:(c-1)/2=j
    ·rw[if_pos hq];exact h2 hj c c0 cn hq
    ·rw[if_neg hq];exact h1 c c0 cn hc
 ·intro i0 c c0 cn hp;have hpar:=h1 ((j-1)/2) i0 (by omega) (by omega);unfold swapF;rw[if_neg (show((j-1)/2-1)/2≠(j-1)/2 by omega),if_neg (show((j-1)/2-1)/2≠j by omega),if_neg (show c≠(j-1)/2 by omega)];by_cases hc:c=j
  ·rw[if_pos hc];exact hpar
  ·rw[if_neg hc];have:=h1 c c0 cn hc;rw[hp]at this;exact ho.tr _ _ _ hpar this
theorem DnInv.exit{g:Nat→α}{n i:Nat}(h:DnInv lt g n i)(he: ∀c,0<c→c<n→(c-1)/2=i→lt (g c) (g i)=false):HeapF lt g n:=by
 intro c h0 hc;by_cases e:(c-1)/2=i
 ·rw[e];exact he c h0 hc e
 ·exact h.1 c h0 hc e
theorem DnInv.step(ho:Order lt){g:Nat→α}{n i j:Nat}(h:DnInv lt g n i)(hj:(j-1)/2=i)(h0:0<j)(hn:j<n)(hl:lt (g j) (g i)=true)(hm: ∀c,0<c→c<n→(c-1)/2=i→lt (g c) (g j)=false):
 DnInv lt (swapF g i j) n j:=by
 obtain⟨h1,h2⟩:=h;have hij:i≠j:=by omega
 constructor
 ·intro c c0 cn cp;unfold swapF;by_cases hci:c=i
  ·subst hci;rw[if_pos rfl,if_neg (by omega),if_neg cp];exact h2 c0 j h0 hn hj
  ·rw[if_neg hci];by_cases hcj:c=j
   ·subst hcj;rw[if_pos rfl,if_pos hj];exact ho.asym _ _ hl
   ·rw[if_neg hcj];by_cases hq:(c-1)/2=i
    ·rw[if_pos hq];exact hm c c0 cn hq
    ·rw[if_neg hq,if_neg cp];exact h1 c c0 cn hq
 ·intro _ c c0 cn hp;unfold swapF;rw[hj,if_pos rfl,if_neg (by omega),if_neg (by omega)];have:=h1 c c0 cn (by omega)
  rwa[hp]at this
theorem HeapF.up{g:Nat→α}{n:Nat}(h:HeapF lt g n):UpInv lt g (n+1) n:=
 ⟨fun c h0 hc hne=>h c h0 (by omega),fun _ c h0 hc hp=>by omega⟩
theorem HeapF.down{g:Nat→α}{n:Nat}(h:HeapF lt g (n+1)):DnInv lt (swapF g 0 n) n 0:=by
 refine⟨fun c h0 hc hp=> ?_,fun h=>by omega⟩;unfold swapF;rw[if_neg (by omega),if_neg (by omega),if_neg hp,if_neg (by omega)];exact h c h0 (by omega)
theorem HeapF.congr{g g':Nat→α}{n:Nat}(h:HeapF lt g n)(he: ∀i,i<n→g' i=g i):HeapF lt g' n:=by
 intro c h0 hc;rw[he c hc,he _ (by omega)];exact h c h0 hc
theorem UpInv.congr{g g':Nat→α}{n j:Nat}(h:UpInv lt g n j)(hj:j<n)(he: ∀i,i<n→g' i=g i):UpInv lt g' n j:=
 ⟨fun c h0 hc hne=>by rw[he c hc,he _ (by omega)];exact h.1 c h0 hc hne,fun hj0 c h0 hc hp=>by rw[he c hc,he _ (by omega)];exact h.2 hj0 c h0 hc hp⟩
theorem DnInv.congr{g g':Nat→α}{n i:Nat}(h:DnInv lt g n i)(he: ∀i,i<n→g' i=g i):DnInv lt g' n i:=
 ⟨fun c h0 hc hne=>by rw[he c hc,he _ (by omega)];exact h.1 c h0 hc hne,fun hj0 c h0 hc hp=>by rw[he c hc,he _ (by omega)];exact h.2 hj0 c h0 hc hp⟩
end
def nth{α:Type}[Inhabited α](l:List α)(i:Nat):α:=l[i]?.getD default
def swapL{α:Type}[Inhabited α](l:List α)(i j:Nat):List α:=(l.set i (nth l j)).set j (nth l i)
section
variable{α:Type}[Inhabited α]
theorem len_swapL(l:List α)(i j:Nat):(swapL l i j).length=l.length:=by simp[swapL]
theorem nth_set(l:List α)(i k:Nat)(v:α)(hi:i<l.length):nth (l.set i v) k=if k=i then v else nth l k:=by
 unfold nth;by_cases h:k=i
 ·subst h;rw[List.getElem?_set_self hi,if_pos rfl];rfl
 ·rw[List.getElem?_set_ne (by omega),if_neg h]
theorem nth_swapL(l:List α)(i j k:Nat)(hi:i<l.length)(hj:j<l.length):nth (swapL l i j) k=swapF (nth l) i j k:=by
 unfold swapL swapF;rw[nth_set _ _ _ _ (by simpa using hj),nth_set _ _ _ _ hi];by_cases h1:k=j
 ·rw[if_pos h1];by_cases h2:k=i
  ·rw[if_pos h2];subst h1;subst h2;rfl
  ·rw[if_neg h2,if_pos h1]
 ·rw[if_neg h1,if_neg h1]
theorem swapL_perm(l:List α)(i j:Nat)(hi:i<l.length)(hj:j<l.length):(swapL l i j).Perm l:=by
 have e:swapL l i j=(l.toArray.swap i j (by simpa using hi) (by simpa using hj)).toList:=by
  apply List.ext_getElem?;intro k
  have e1:(swapL l i j)[k]? =if k=j then(if j<l.length then some (nth l i)else none)else if k=i then some (nth l j)else l[k]? :=by
   unfold swapL;by_cases h:k=j
   ·subst h;rw[if_pos rfl,List.getElem?_set_self (by simpa using hj),if_pos hj]
   ·rw[if_neg h,List.getElem?_set_ne (by omega)];by_cases h2:k=i
    ·subst h2;rw[if_pos rfl,List.getElem?_set_self hi]
    ·rw[if_neg h2,List.getElem?_set_ne (by omega)]
  rw[e1];simp only[Array.getElem?_toList,Array.getElem?_swap,List.getElem?_toArray];simp only[nth,List.getElem?_eq_getElem hi,List.getElem?_eq_getElem hj,Option.getD_some,if_pos hj];by_cases h1:k=j
  ·rw[if_pos h1,if_pos h1.symm];rfl
  ·rw[if_neg h1,if_neg (Ne.symm h1)];by_cases h2:k=i
   ·rw[if_pos h2,if_pos h2.symm];rfl
   ·rw[if_neg h2,if_neg (Ne.symm h2)]
 rw[e];exact(Array.swap_perm (xs:=l.toArray) _ _).toList
end
end
section
open Go.ChangeShapes Go.WideShapes Go.RowKit
variable{w w':World}{base:Nat}{e:TypeId}{size:Nat}{v:Value}{n:Nat}{xs:List Value}{g cap:Nat}
theorem own_blk(h:w.ownsRow base e size (.slice (some ⟨g,0,none⟩) n cap) n xs): ∃cur,blk w g=some (.cells cur e (0,0))∧base≤g∧n≤cap∧cap≤maxLen∧cur.size=cap*size∧cur.toList.take (n*size)=xs∧xs.length=n*size:=by
 obtain⟨h1,h2⟩:=h;rcases h2 with⟨h2,_⟩|⟨g',cap',cur,hv,hb,hh,hn,hc,hs,ht⟩
 ·simp at h2
 ·simp only[Value.slice.injEq,Option.some.injEq,Addr.mk.injEq,true_and,and_true]at hv;obtain⟨rfl,rfl⟩:=hv;exact⟨cur,hh,hb,hn,hc,hs,ht,h1⟩
theorem zX(h:w.ownsRow base e size (.slice (some ⟨g,0,none⟩) n cap) n xs){i:Nat}{u:Value}(hu:xs[i]? =some u):w.cell? ⟨g,i,none⟩=some u:=by
 obtain⟨cur,hb,_,_,_,_,ht,_⟩:=own_blk h;refine zA hb ?_;rw[←ht]at hu;rw[List.getElem?_take]at hu;split at hu
 ·simpa using hu
 ·simp at hu
theorem zf(h:w.ownsRow base e size (.slice (some ⟨g,0,none⟩) n cap) n xs)(i:Nat):w.frozen? ⟨g,i,none⟩=false:=by
 obtain⟨cur,hb,_⟩:=own_blk h;exact zE hb
theorem own_lt(h:w.ownsRow base e size (.slice (some ⟨g,0,none⟩) n cap) n xs):g<w.heap.size:=by
 obtain⟨cur,hb,_⟩:=own_blk h;exact zF hb
theorem zN(h:w.ownsRow base e size (.slice (some ⟨g,0,none⟩) n cap) n xs):base≤g:=by
 obtain⟨cur,_,hb,_⟩:=own_blk h;exact hb
theorem ZC(h:w.ownsRow base e size (.slice (some ⟨g,0,none⟩) n cap) n xs):n≤cap∧cap≤maxLen:=by
 obtain⟨cur,_,_,h1,h2,_⟩:=own_blk h;exact⟨h1,h2⟩
theorem own_mk{cur:Array Value}(hb:blk w g=some (.cells cur e (0,0)))(h0:base≤g)(h1:n≤cap)(h2:cap≤maxLen)(h3:cur.size=cap*size)(h4:cur.toList.take (n*size)=xs):
 w.ownsRow base e size (.slice (some ⟨g,0,none⟩) n cap) n xs:=by
 refine⟨?_,.inr ⟨g,cap,cur,rfl,h0,hb,h1,h2,h3,h4⟩⟩;rw[←h4,List.length_take];have:n*size≤cap*size:=Nat.mul_le_mul_right _ h1
 simp;omega
theorem zg(h:w.ownsRow base e size (.slice (some ⟨g,0,none⟩) n cap) n xs)(i:Nat)(u:Value):(w.setCell ⟨g,i,none⟩ u).ownsRow base e size (.slice (some ⟨g,0,none⟩) n cap) n (xs.set i u):=by
 obtain⟨cur,hb,h0,h1,h2,h3,h4,h5⟩:=own_blk h;refine own_mk (cur:=cur.setIfInBounds i u) (by rw[zD,if_pos rfl,hb];rfl) h0 h1 h2 (by simpa using h3) ?_;rw[Array.toList_setIfInBounds,List.take_set,h4]
theorem zL{S:List Nat}(h:w.ownsRow base e size v n xs)(hF:Fr S w w')(hS: ∀x,v.ownBlock=some x→x∉S):w'.ownsRow base e size v n xs:=by
 obtain⟨h1,h2⟩:=h;refine⟨h1, ?_⟩;rcases h2 with h2|⟨g,cap,cur,hv,hb,hh,r⟩
 ·exact .inl h2
 ·exact .inr ⟨g,cap,cur,hv,hb,hF.at (show blk w g=_ from hh) (hS g (by rw[hv];rfl)),r⟩
theorem grown_fr{row:Option Nat}(h:w.grownBy w' row):Fr row.toList w w':=
 ⟨h.os,h.tape,h.output,h.size,fun k hk hn=>h.block k hk (fun he=>hn (by rw[←he];simp))⟩
theorem own_len(h:w.ownsRow base e size v n xs):xs.length=n*size:=h.1
theorem own_take(h:w.ownsRow base e size (.slice (some ⟨g,0,none⟩) n cap) n xs)(k:Nat)(hk:k≤n):w.ownsRow base e size (.slice (some ⟨g,0,none⟩) k cap) k (xs.take (k*size)):=by
 obtain⟨cur,hb,h0,h1,h2,h3,h4,h5⟩:=own_blk h;refine own_mk hb h0 (by omega) h2 h3 ?_;rw[←h4,List.take_take]
 congr 1
 have:k*size≤n*size:=Nat.mul_le_mul_right _ hk;omega
end
end Go.Proofs.YtghkahcogphomaaGreat
