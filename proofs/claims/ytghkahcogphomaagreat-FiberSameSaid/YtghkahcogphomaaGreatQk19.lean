/- Fibers: a part of the walk. No condition. -/
import Derived.Test.YtghkahcogphomaaGreatQk10
import Derived.Test.YtghkahcogphomaaGreatQk18
set_option linter.all false
namespace Go.Proofs.YtghkahcogphomaaGreat
section
variable{A A':Ar}{m:Nat}{D:Nat→Option Ob}
structure MObj where
 kind:Int
 n:Int
 f:Int→Int
def Mem:=Int→Option MObj
def Mem.put(M:Mem)(x i v:Int):Mem:=fun y=>if y=x then(M x).map fun o=>⟨o.kind,o.n,fun j=>if j=i then v else o.f j⟩else M y
def Mem.new(M:Mem)(x kind n:Int):Mem:=fun y=>if y=x then some ⟨kind,n,fun _=>ZD kind⟩else M y
def MemObj(D:Nat→Option Ob)(x:Int)(o:MObj):Prop:= ∃(j:Nat) (q:Ob),D j=some q∧x=pw q.a∧(q.kind:Int)=o.kind∧(q.fs.length:Int)=o.n∧∀i:Nat,i<q.fs.length→q.fs[i]?.getD 0=o.f i
structure Hq(A:Ar)(m:Nat)(M:Mem):Prop where
 un:Unmarked A m
 ex: ∃G K D N,HG A m G K D∧(∀j o,D j=some o→j<N)∧∀x o,M x=some o→MemObj D x o
variable{M:Mem}{x:Int}{o:MObj}
theorem Hq.start{m:Nat}(h1:1≤m)(h2:m≤4096):Hq (Ar.new m) m fun _=>none:=
 ⟨Unmarked.start m,_,_,_,0,HG.start h1 h2,fun _ _ h=>(by cases h),fun _ _ h=>(by cases h)⟩
theorem Hq.less{M':Mem}(h:Hq A m M)(hs: ∀x o,M' x=some o→M x=some o):Hq A m M':=by
 obtain⟨hu,G,K,D,N,hg,hN,hm⟩:=h;exact⟨hu,G,K,D,N,hg,hN,fun x o hx=>hm x o (hs x o hx)⟩
theorem Hq.wdA(h:Hq A m M):A.Wd:=by obtain⟨_,G,K,D,N,hg,_⟩:=h;exact hg.wd
theorem Hq.okA(h:Hq A m M):A.Ok m:=by obtain⟨_,G,K,D,N,hg,_⟩:=h;exact hg.inv.ok
theorem Hq.hat(h:Hq A m M)(hx:M x=some o): ∃a p:Nat,∃k:Nat,∃n:Nat,hAt A m x=some ⟨a,k,p,n⟩∧(k:Int)=o.kind∧(n:Int)=o.n∧n≤240∧x%8=1∧W64 x:=by
 obtain⟨_,G,K,D,N,hg,_,hm⟩:=h;obtain⟨j,q,hq,rfl,e1,e2,e3⟩:=hm x o hx;exact⟨_,_,_,_,hg.hat hq,e1,e2,(hg.ob j q hq).n,by unfold pw;omega,hg.pwb hq⟩
theorem Hq.w(h:Hq A m M)(hx:M x=some o):W64 x:=by
 obtain⟨_,_,_,_,_,_,_,_,_,h⟩:=h.hat hx;exact h
theorem Hq.tag(h:Hq A m M)(hx:M x=some o):x%8=1:=by
 obtain⟨_,_,_,_,_,_,_,_,h,_⟩:=h.hat hx;exact h
theorem Hq.sz(h:Hq A m M)(hx:M x=some o):szF A m x=o.n:=by
 obtain⟨a,p,k,n,h1,h2,h3,h4,_⟩:=h.hat hx;unfold szF;rw[h1,←h3];rfl
theorem Hq.kd(h:Hq A m M)(hx:M x=some o):kdF A m x=o.kind:=by
 obtain⟨a,p,k,n,h1,h2,h3,h4,_⟩:=h.hat hx;unfold kdF;rw[h1,←h2];rfl
theorem Hq.n(h:Hq A m M)(hx:M x=some o):0≤o.n∧o.n≤240:=by
 obtain⟨a,p,k,n,h1,h2,h3,h4,_⟩:=h.hat hx;omega
theorem Hq.gt(h:Hq A m M)(hx:M x=some o)(i:Int):gtF A m x i=if 0≤i∧i<o.n then o.f i else 45:=by
 obtain⟨_,G,K,D,N,hg,_,hm⟩:=h;obtain⟨j,q,hq,rfl,e1,e2,e3⟩:=hm x o hx;unfold gtF;by_cases hi:0≤i∧i<o.n
 ·rw[if_pos hi];obtain⟨k,rfl⟩: ∃k:Nat,i=k:=⟨i.toNat,by omega⟩;rw[hg.get hq k (by omega),if_pos rfl];exact e3 k (by omega)
 ·rw[if_neg hi,hg.get_out hq i (by omega),if_neg (by simp)]
theorem Hq.gl{k n:Int}{f:Int→Int}(h:Hq A m M)(hx:M x=some ⟨k,n,f⟩)(i:Int)(h0:0≤i)(h1:i<n):gtF A m x i=f i:=by
 rw[h.gt hx,if_pos ⟨h0,h1⟩]
theorem Mem.put_ne(M:Mem){x y:Int}(i v:Int)(h:y≠x):M.put x i v y=M y:=by unfold Mem.put;rw[if_neg h]
theorem Mem.put_eq{M:Mem}{x:Int}{o:MObj}(i v:Int)(hx:M x=some o):M.put x i v x=some ⟨o.kind,o.n,fun j=>if j=i then v else o.f j⟩:=by unfold Mem.put;rw[if_pos rfl,hx];rfl
theorem Mem.put_lit{M:Mem}{x k n:Int}{f:Int→Int}(i v:Int)(hx:M x=some ⟨k,n,f⟩):M.put x i v x=some ⟨k,n,fun j=>if j=i then v else f j⟩:=Mem.put_eq i v hx
theorem Mem.new_ne(M:Mem){x y:Int}(k n:Int)(h:y≠x):M.new x k n y=M y:=by unfold Mem.new;rw[if_neg h]
theorem Mem.new_eq(M:Mem)(x k n:Int):M.new x k n x=some ⟨k,n,fun _=>ZD k⟩:=by unfold Mem.new;rw[if_pos rfl]
theorem Hq.st(h:Hq A m M)(hx:M x=some o){i v:Int}(i0:0≤i)(i1:i<o.n)(hv:W64 v):Hq (stF A m x i v) m (M.put x i v):=by
 obtain⟨hu,G,K,D,N,hg,hN,hm⟩:=h;obtain⟨j,q,hq,rfl,e1,e2,e3⟩:=hm x o hx;obtain⟨k,rfl⟩: ∃k:Nat,i=k:=⟨i.toNat,by omega⟩;have hs:=(hg.setS hq k (by omega) hv.1 hv.2).2;refine⟨hu.set _ _ _,G,K,_,N,hs, ?_, ?_⟩
 ·intro i p hp;by_cases hi:i=j
  ·subst hi;exact hN _ _ hq
  ·rw[updD_ne _ _ hi]at hp;exact hN _ _ hp
 ·intro y p hy;by_cases hyx:y=pw q.a
  ·subst hyx;rw[Mem.put_eq (k:Int) v hx]at hy;injection hy with hy
   subst hy;refine⟨j,{ q with fs:=q.fs.set k v },zY _ _ _,rfl,e1,by simpa using e2, ?_⟩;intro i hi;simp only[List.length_set]at hi;simp only;by_cases hki:(i:Int)=k
   ·rw[if_pos hki,show i=k by omega,List.getElem?_set_self (by omega)];rfl
   ·rw[if_neg hki,List.getElem?_set_ne (by omega)];exact e3 i hi
  ·rw[Mem.put_ne _ _ _ hyx]at hy;obtain⟨j2,q2,hq2,rfl,r⟩:=hm y p hy;refine⟨j2,q2, ?_,rfl,r⟩;rw[updD_ne]
   ·exact hq2
   ·rintro rfl;rw[hq]at hq2;injection hq2 with hq2
    subst hq2;exact hyx rfl
theorem Hq.make(h:Hq A m M)(kind n:Int):
 ((makeF A m kind n).2=none∧Hq (makeF A m kind n).1 m M)∨∃x,(makeF A m kind n).2=some x∧M x=none∧x%8=1∧W64 x∧0≤n∧n≤240∧Hq (makeF A m kind n).1 m (M.new x kind n):=by
 obtain⟨hu,G,K,D,N,hg,hN,hm⟩:=h
 have hj:D N=none:=by
  cases hD:D N with
  |none=>rfl
  |some o=>exact absurd (hN _ _ hD) (by omega)
 have hu2:=hu.make hg kind n hj;cases hx:(makeF A m kind n).2 with
 |none=>
  have:=(hg.make kind n hj).2;rw[hx]at this;obtain⟨G',h'⟩:=this;exact .inl ⟨rfl,hu2,G',K,D,N,h',hN,hm⟩
 |some x=>
  obtain⟨G',a,rfl,n0,n1,k0,k1,h'⟩:=hg.makeS hx hj;refine .inr ⟨_,rfl, ?_,by unfold pw;omega,h'.pwb (zY _ _ _),n0,n1,hu2,G',K,_,N+1,h', ?_, ?_⟩
  ·cases hM:M (pw a)with
   |none=>rfl
   |some o=>
    exfalso;obtain⟨j,q,hq,e,_⟩:=hm _ o hM;have hjn:=hN _ _ hq;have:=h'.uniq (zY _ _ _) (show updD D N _ j=some q by rw[updD_ne _ _ (by omega)];exact hq) (by simpa using pw_inj e);omega
  ·intro i p hp;by_cases hi:i=N
   ·omega
   ·rw[updD_ne _ _ hi]at hp;have:=hN _ _ hp;omega
  ·intro y p hy;by_cases hyx:y=pw a
   ·subst hyx;rw[Mem.new_eq]at hy;injection hy with hy
    subst hy;refine⟨N,_,zY _ _ _,rfl,by simp only;omega,by simp only[List.length_replicate];omega, ?_⟩;intro i hi;simp only[List.length_replicate]at hi;simp only;rw[List.getElem?_replicate,if_pos hi];rfl
   ·rw[Mem.new_ne _ _ _ hyx]at hy;obtain⟨j,q,hq,r⟩:=hm y p hy;exact⟨j,q,by rw[updD_ne _ _ (by have:=hN _ _ hq;omega)];exact hq,r⟩
end
section
variable{A A':Ar}{m r:Nat}{M M' M'':Mem}
def Off(fp:List Int)(M M':Mem):Prop:= ∀x o,x∉fp→M x=some o→M' x=some o
theorem Off.refl(fp:List Int)(M:Mem):Off fp M M:=fun _ _ _ h=>h
theorem Off.trans{fp:List Int}(h:Off fp M M')(h2:Off fp M' M''):Off fp M M'':=fun x o hx ho=>h2 x o hx (h x o hx ho)
theorem Off.mono{fp fp':List Int}(h:Off fp M M')(hs: ∀x,x∈fp→x∈fp'):Off fp' M M':=fun x o hx ho=>h x o (fun hc=>hx (hs x hc)) ho
theorem Off.put(M:Mem)(x i v:Int):Off [x] M (M.put x i v):=fun y o hy ho=>by rw[Mem.put_ne _ _ _ (by simpa using hy)];exact ho
theorem Off.new{x:Int}(hx:M x=none)(k n:Int):Off [] M (M.new x k n):=fun y o _ ho=>by
 rw[Mem.new_ne]
 ·exact ho
 ·rintro rfl;rw[hx]at ho;cases ho
structure Seg(M:Mem)(s prev:Int)(cap:Nat)(ws:List Int):Prop where
 ex: ∃f,M s=some ⟨15,2+cap,f⟩∧f 0=prev∧f 1=smW ws.length∧∀i:Nat,i<ws.length→f (2+i)=ws[i]?.getD 0
 le:ws.length≤cap
variable{s prev x below seg base hand:Int}{cap:Nat}{ws:List Int}
theorem Seg.off{fp:List Int}(h:Seg M s prev cap ws)(ho:Off fp M M')(hs:s∉fp):Seg M' s prev cap ws:=by
 obtain⟨⟨f,h1,h2⟩,h3⟩:=h;exact⟨⟨f,ho _ _ hs h1,h2⟩,h3⟩
theorem Seg.obj(h:Seg M s prev cap ws): ∃o,M s=some o∧o.n=2+cap∧o.kind=15:=by
 obtain⟨⟨f,h1,h2⟩,h3⟩:=h;exact⟨_,h1,rfl,rfl⟩
theorem Seg.cp(h:Seg M s prev cap ws)(hp:Hq A m M):cap≤238:=by
 obtain⟨o,h1,h2,_⟩:=h.obj;have:=hp.n h1;omega
theorem Seg.w(h:Seg M s prev cap ws)(hp:Hq A m M):W64 s:=by
 obtain⟨o,h1,h2,_⟩:=h.obj;exact hp.w h1
theorem Seg.tag(h:Seg M s prev cap ws)(hp:Hq A m M):s%8=1:=by
 obtain⟨o,h1,h2,_⟩:=h.obj;exact hp.tag h1
theorem Seg.rm(h:Seg M s prev cap ws)(hp:Hq A m M):rmF A m s=cap:=by
 obtain⟨o,h1,h2,_⟩:=h.obj;unfold rmF;rw[hp.sz h1,h2];omega
theorem Seg.g0(h:Seg M s prev cap ws)(hp:Hq A m M):gtF A m s 0=prev:=by
 obtain⟨⟨f,h1,h2,h3,h4⟩,h5⟩:=h;rw[hp.gl h1 _ (by omega) (by omega),h2]
theorem Seg.used(h:Seg M s prev cap ws)(hp:Hq A m M):nmF A m s 1=ws.length:=by
 have hc:=h.cp hp;obtain⟨⟨f,h1,h2,h3,h4⟩,h5⟩:=h;unfold nmF;rw[hp.gl h1 _ (by omega) (by omega),h3,smW_val (by omega) (by omega)]
theorem Seg.at(h:Seg M s prev cap ws)(hp:Hq A m M){i:Nat}(hi:i<ws.length):gtF A m s (2+i)=ws[i]?.getD 0:=by
 obtain⟨⟨f,h1,h2,h3,h4⟩,h5⟩:=h;rw[hp.gl h1 _ (by omega) (by omega),h4 i hi]
theorem Seg.wsw(h:Seg M s prev cap ws)(hp:Hq A m M): ∀i:Nat,i<ws.length→W64 (ws[i]?.getD 0):=by
 intro i hi;rw[←h.at hp hi];exact gtF_w hp.wdA _ _ _
theorem Seg.put(h:Seg M s prev cap ws){i:Nat}(hi:i<ws.length)(v:Int):Seg (M.put s (2+i) v) s prev cap (ws.set i v):=by
 obtain⟨⟨f,h1,h2,h3,h4⟩,h5⟩:=h;refine⟨⟨_,Mem.put_lit _ _ h1, ?_, ?_, ?_⟩,by simpa using h5⟩
 ·rw[if_neg (by omega)];exact h2
 ·rw[if_neg (by omega)];simpa using h3
 ·intro j hj;simp only[List.length_set]at hj;by_cases hji:j=i
  ·subst hji;rw[if_pos rfl,List.getElem?_set_self hj];rfl
  ·rw[if_neg (by omega),List.getElem?_set_ne (by omega)];exact h4 j hj
theorem Seg.grow(h:Seg M s prev cap ws)(vs:List Int)(g:Int→Int)(hm:M' s=some ⟨15,2+cap,g⟩)(hc:ws.length+vs.length≤cap)(g0:g 0=prev)(g1:g 1=smW (ws.length+vs.length:Nat))(hg: ∀i:Nat,i<ws.length→∀f,M s=some ⟨15,2+cap,f⟩→g (2+i)=f (2+i))(hv: ∀i:Nat,i<vs.length→g (2+(ws.length+i:Nat))=vs[i]?.getD 0):Seg M' s prev cap (ws++vs):=by
 obtain⟨⟨f,h1,h2,h3,h4⟩,h5⟩:=h;refine⟨⟨g,hm,g0,by rw[List.length_append];exact g1, ?_⟩,by rw[List.length_append];exact hc⟩;intro i hi;rw[List.length_append]at hi;rcases Nat.lt_or_ge i ws.length with h|h
 ·rw[hg i h f h1,h4 i h,List.getElem?_append_left h]
 ·obtain⟨j,rfl⟩: ∃j,i=ws.length+j:=⟨i-ws.length,by omega⟩;rw[hv j (by omega),List.getElem?_append_right (by omega)]
  congr 3;omega
theorem Seg.push(h:Seg M s prev cap ws)(hc:ws.length<cap)(v:Int):Seg ((M.put s (2+ws.length) v).put s 1 (smW (ws.length+1))) s prev cap (ws++[v]):=by
 obtain⟨f,h1,h2,h3,h4⟩:=h.ex;refine h.grow [v] _ (Mem.put_lit _ _ (Mem.put_lit _ _ h1)) (by simp;omega) ?_ ?_ ?_ ?_
 ·rw[if_neg (by omega),if_neg (by omega)];exact h2
 ·rw[if_pos rfl];simp
 ·intro i hi f2 hf2;rw[h1]at hf2;injection hf2 with hf2
  injection hf2 with _ _ hf2
  subst hf2;rw[if_neg (by omega),if_neg (by omega)]
 ·intro i hi;simp only[List.length_singleton]at hi;have:i=0:=by omega
  subst this;rw[if_neg (by omega),if_pos (by simp)];rfl
theorem Seg.cut(h:Seg M s prev cap ws){k:Nat}(hk:k≤ws.length):Seg (M.put s 1 (smW k)) s prev cap (ws.take k):=by
 obtain⟨⟨f,h1,h2,h3,h4⟩,h5⟩:=h;refine⟨⟨_,Mem.put_lit _ _ h1, ?_, ?_, ?_⟩,by simp;omega⟩
 ·rw[if_neg (by omega)];exact h2
 ·rw[if_pos rfl,List.length_take,Nat.min_eq_left hk]
 ·intro j hj;simp only[List.length_take]at hj;rw[if_neg (by omega),h4 j (by omega),List.getElem?_take,if_pos (by omega)]
structure Fib(M:Mem)(x below seg base hand:Int):Prop where
 ex: ∃f,M x=some ⟨7,4,f⟩∧f 0=below∧f 1=seg∧f 2=smW base∧f 3=hand
theorem Fib.off{fp:List Int}(h:Fib M x below seg base hand)(ho:Off fp M M')(hs:x∉fp):Fib M' x below seg base hand:=by
 obtain⟨f,h1,h2⟩:=h.ex;exact⟨f,ho _ _ hs h1,h2⟩
theorem Fib.obj(h:Fib M x below seg base hand): ∃o,M x=some o∧o.n=4∧o.kind=7:=by
 obtain⟨f,h1,h2⟩:=h.ex;exact⟨_,h1,rfl,rfl⟩
theorem Fib.w(h:Fib M x below seg base hand)(hp:Hq A m M):W64 x:=by
 obtain⟨o,h1,_⟩:=h.obj;exact hp.w h1
theorem Fib.tag(h:Fib M x below seg base hand)(hp:Hq A m M):x%8=1:=by
 obtain⟨o,h1,_⟩:=h.obj;exact hp.tag h1
theorem Fib.g(h:Fib M x below seg base hand)(hp:Hq A m M):gtF A m x 0=below∧gtF A m x 1=seg∧gtF A m x 2=smW base∧gtF A m x 3=hand:=by
 obtain⟨f,h1,h2,h3,h4,h5⟩:=h.ex;refine⟨?_, ?_, ?_, ?_⟩
 ·rw[hp.gl h1 _ (by omega) (by omega),h2]
 ·rw[hp.gl h1 _ (by omega) (by omega),h3]
 ·rw[hp.gl h1 _ (by omega) (by omega),h4]
 ·rw[hp.gl h1 _ (by omega) (by omega),h5]
theorem Fib.below'(h:Fib M x below seg base hand)(v:Int):Fib (M.put x 0 v) x v seg base hand:=by
 obtain⟨f,h1,h2,h3,h4,h5⟩:=h.ex;exact⟨_,Mem.put_lit _ _ h1,if_pos rfl,by rw[if_neg (by omega)];exact h3,by rw[if_neg (by omega)];exact h4,by rw[if_neg (by omega)];exact h5⟩
theorem Fib.seg'(h:Fib M x below seg base hand)(v:Int):Fib (M.put x 1 v) x below v base hand:=by
 obtain⟨f,h1,h2,h3,h4,h5⟩:=h.ex;exact⟨_,Mem.put_lit _ _ h1,by rw[if_neg (by omega)];exact h2,if_pos rfl,by rw[if_neg (by omega)];exact h4,by rw[if_neg (by omega)];exact h5⟩
theorem Fib.base'(h:Fib M x below seg base hand)(v:Int):Fib (M.put x 2 (smW v)) x below seg v hand:=by
 obtain⟨f,h1,h2,h3,h4,h5⟩:=h.ex;exact⟨_,Mem.put_lit _ _ h1,by rw[if_neg (by omega)];exact h2,by rw[if_neg (by omega)];exact h3,if_pos rfl,by rw[if_neg (by omega)];exact h5⟩
theorem Fib.hand'(h:Fib M x below seg base hand)(v:Int):Fib (M.put x 3 v) x below seg base v:=by
 obtain⟨f,h1,h2,h3,h4,h5⟩:=h.ex;exact⟨_,Mem.put_lit _ _ h1,by rw[if_neg (by omega)];exact h2,by rw[if_neg (by omega)];exact h3,by rw[if_neg (by omega)];exact h4,if_pos rfl⟩
theorem fib_seg_ne(h:Fib M x below seg base hand)(h2:Seg M s prev cap ws):x≠s:=by
 rintro rfl;obtain⟨o,e1,_,e2⟩:=h.obj;obtain⟨o2,e3,_,e4⟩:=h2.obj;rw[e1]at e3;injection e3 with e3
 subst e3;omega
structure Frm where
 cl:Int
 pc:Int
 slots:List Int
 words:List Int
 room:Nat
def Frm.len(f:Frm):Nat:=5+f.slots.length+f.words.length
def szL:List Frm→Nat
 |[]=>0
 |f::r=>szL r+f.len
def lk(l0:Int):List Frm→Int
 |[]=>l0
 |_::r=>szL r
def Frm.enc(f:Frm)(link:Int):List Int:=[f.cl,smW f.pc,smW link,smW f.slots.length,smW f.room]++f.slots++f.words
def enc(l0:Int):List Frm→List Int
 |[]=>[]
 |f::r=>enc l0 r++f.enc (lk l0 r)
theorem Frm.len_enc(f:Frm)(link:Int):(f.enc link).length=f.len:=by simp[Frm.enc,Frm.len];omega
theorem len_enc(l0:Int)(fs:List Frm):(enc l0 fs).length=szL fs:=by
 induction fs with
 |nil=>rfl
 |cons f r ih=>simp only[enc,szL,List.length_append,ih,Frm.len_enc]
def fits(cap:Nat):List Frm→Prop
 |[]=>True
 |f::r=>szL r+5+f.slots.length+f.room≤cap∧f.words.length≤f.room∧ -1000000≤f.pc∧f.pc≤1000000∧fits cap r
theorem enc_at(l0:Int)(f:Frm)(r:List Frm)(k:Nat):(enc l0 (f::r))[szL r+k]? =(f.enc (lk l0 r))[k]? :=by
 simp only[enc];rw[List.getElem?_append_right (by rw[len_enc];omega),len_enc]
 congr 1;omega
theorem Frm.at5(f:Frm)(link:Int)(i:Nat)(hi:i<f.slots.length):(f.enc link)[5+i]? =f.slots[i]? :=by
 unfold Frm.enc;rw[List.getElem?_append_left (by simp;omega),List.getElem?_append_right (by simp)]
 congr 1;simp
theorem Frm.enc_pc(f:Frm)(link n:Int):(f.enc link).set 1 (smW n)=Frm.enc { f with pc:=n } link:=rfl
theorem Frm.enc_push(f:Frm)(link v:Int):f.enc link++[v]=Frm.enc { f with words:=f.words++[v]} link:=by simp[Frm.enc]
end
section
variable{A A':Ar}{m r:Nat}{M M' M'':Mem}{x s prev below hand l0:Int}{cap:Nat}{f:Frm}{fs r0:List Frm}
structure Top(M:Mem)(x s prev below hand l0:Int)(cap:Nat)(fs:List Frm):Prop where
 fib:Fib M x below s (lk l0 fs) hand
 seg:Seg M s prev cap (enc l0 fs)
 ok:fits cap fs
theorem Top.ne(h:Top M x s prev below hand l0 cap fs):x≠s:=fib_seg_ne h.fib h.seg
theorem Top.sz(h:Top M x s prev below hand l0 cap (f::r0))(hp:Hq A m M):szL r0+5+f.slots.length+f.room≤cap∧f.words.length≤f.room∧cap≤238∧ -1000000≤f.pc∧f.pc≤1000000:=
 ⟨h.ok.1,h.ok.2.1,h.seg.cp hp,h.ok.2.2.1,h.ok.2.2.2.1⟩
theorem Top.b(h:Top M x s prev below hand l0 cap (f::r0))(hp:Hq A m M):nmF A m x 2=szL r0:=by
 have:=h.sz hp;unfold nmF;rw[(h.fib.g hp).2.2.1];exact smW_val (by simp only[lk];omega) (by simp only[lk];omega)
theorem Top.no(h:Top M x s prev below hand l0 cap (f::r0))(hp:Hq A m M):noF A m x=false:=by
 unfold noF;rw[h.b hp];exact beq_eq_false_iff_ne.2 (by omega)
theorem Top.used(h:Top M x s prev below hand l0 cap fs)(hp:Hq A m M):nmF A m s 1=szL fs:=by
 rw[h.seg.used hp,len_enc]
theorem Top.hd(h:Top M x s prev below hand l0 cap (f::r0))(hp:Hq A m M)(k:Nat)(hk:k<f.len):gtF A m s (2+(szL r0:Int)+k)=(f.enc (lk l0 r0))[k]?.getD 0:=by
 have:=h.seg.at hp (i:=szL r0+k) (by rw[len_enc];simp only[szL];omega);rw[enc_at]at this;rw[←this]
 congr 1
 omega
theorem Top.len(_:Top M x s prev below hand l0 cap (f::r0)):f.len=5+f.slots.length+f.words.length:=rfl
theorem Top.h0(h:Top M x s prev below hand l0 cap (f::r0))(hp:Hq A m M):gtF A m s (2+(szL r0:Int))=f.cl:=by
 have:=h.hd hp 0 (by rw[h.len];omega);simpa[Frm.enc]using this
theorem Top.h1(h:Top M x s prev below hand l0 cap (f::r0))(hp:Hq A m M):nmF A m s (2+(szL r0:Int)+1)=f.pc:=by
 have:=h.hd hp 1 (by rw[h.len];omega);have hz:=h.sz hp;unfold nmF;rw[show gtF A m s (2+(szL r0:Int)+1)=smW f.pc from this];exact smW_val (by omega) (by omega)
theorem Top.h2(h:Top M x s prev below hand l0 cap (f::r0))(hp:Hq A m M):gtF A m s (2+(szL r0:Int)+2)=smW (lk l0 r0):=h.hd hp 2 (by rw[h.len];omega)
theorem Top.h3(h:Top M x s prev below hand l0 cap (f::r0))(hp:Hq A m M):nmF A m s (2+(szL r0:Int)+3)=f.slots.length:=by
 have:=h.hd hp 3 (by rw[h.len];omega);have hz:=h.sz hp;unfold nmF;rw[show gtF A m s (2+(szL r0:Int)+3)=smW f.slots.length from this];exact smW_val (by omega) (by omega)
theorem Top.h4(h:Top M x s prev below hand l0 cap (f::r0))(hp:Hq A m M):nmF A m s (2+(szL r0:Int)+4)=f.room:=by
 have:=h.hd hp 4 (by rw[h.len];omega);have hz:=h.sz hp;unfold nmF;rw[show gtF A m s (2+(szL r0:Int)+4)=smW f.room from this];exact smW_val (by omega) (by omega)
theorem Top.frok(h:Top M x s prev below hand l0 cap (f::r0))(hp:Hq A m M):FrOk A m x:=by
 have hz:=h.sz hp;have hl:=h.len;have e1:=(h.fib.g hp).2.1;have b:=h.b hp;have u:=h.used hp;simp only[szL]at u;refine⟨by rw[b];omega,by rw[b];omega,fun _=> ?_,fun _=> ?_,fun _=> ?_⟩
 ·rw[e1,u];omega
 ·rw[e1,b,h.h3 hp];omega
 ·rw[e1,b,h.h4 hp];omega
theorem Top.words(h:Top M x s prev below hand l0 cap (f::r0))(hp:Hq A m M):wordsF A m x=f.words.length:=by
 have u:=h.used hp;have hl:=h.len;simp only[szL]at u;unfold wordsF;rw[h.no hp,(h.fib.g hp).2.1,h.b hp,h.h3 hp,u];simp only[Bool.false_eq_true,if_false];omega
theorem Top.cl(h:Top M x s prev below hand l0 cap (f::r0))(hp:Hq A m M):gtF A m (gtF A m x 1) (2+nmF A m x 2)=f.cl:=by
 rw[(h.fib.g hp).2.1,h.b hp,h.h0 hp]
theorem Top.pc(h:Top M x s prev below hand l0 cap (f::r0))(hp:Hq A m M):nmF A m (gtF A m x 1) (2+nmF A m x 2+1)=f.pc:=by
 rw[(h.fib.g hp).2.1,h.b hp,h.h1 hp]
theorem Top.setpc(h:Top M x s prev below hand l0 cap (f::r0))(hp:Hq A m M)(n:Int)(n0: -1000000≤n)(n1:n≤1000000):
 ∃M',Hq (setpcF A m x n) m M'∧Top M' x s prev below hand l0 cap ({ f with pc:=n }::r0)∧Off [s] M M':=by
 have hz:=h.sz hp;obtain⟨o,ho,hn,_⟩:=h.seg.obj;unfold setpcF;rw[h.no hp,(h.fib.g hp).2.1,h.b hp];simp only[Bool.false_eq_true,if_false];refine⟨_,hp.st ho (by omega) (by omega) (zH n),⟨?_, ?_, ?_⟩,Off.put _ _ _ _⟩
 ·exact h.fib.off (Off.put _ _ _ _) (by simpa using h.ne)
 ·have:=h.seg.put (i:=szL r0+1) (by rw[len_enc];simp only[szL];rw[h.len];omega) (smW n);have e:(2:Int)+(szL r0:Int)+1=2+(szL r0+1:Nat):=by omega
  rw[e]
  have e2:(enc l0 (f::r0)).set (szL r0+1) (smW n)=enc l0 ({ f with pc:=n }::r0):=by
   simp only[enc];rw[List.set_append_right _ _ (by rw[len_enc];omega),len_enc,show szL r0+1-szL r0=1 by omega,Frm.enc_pc]
  rw[e2]at this;exact this
 ·exact⟨h.ok.1,h.ok.2.1,n0,n1,h.ok.2.2.2.2⟩
theorem enc_push(l0:Int)(f:Frm)(r0:List Frm)(v:Int):enc l0 (f::r0)++[v]=enc l0 ({ f with words:=f.words++[v]}::r0):=by
 simp only[enc];rw[List.append_assoc,Frm.enc_push]
theorem Top.put(h:Top M x s prev below hand l0 cap (f::r0))(hp:Hq A m M)(v:Int)(hv:W64 v)(hw:f.words.length<f.room):
 (putF A m x v).2=true∧∃M',Hq (putF A m x v).1 m M'∧Top M' x s prev below hand l0 cap ({ f with words:=f.words++[v]}::r0)∧Off [s] M M':=by
 have hz:=h.sz hp;have hl:=h.len;have u:=h.used hp;obtain⟨o,ho,hn,_⟩:=h.seg.obj;have hu:szL (f::r0)<cap:=by simp only[szL];omega
 unfold putF;rw[h.no hp,h.words hp];unfold roomF usedF;rw[(h.fib.g hp).2.1,h.b hp,h.h4 hp,u];simp only[Bool.false_eq_true,if_false];rw[if_neg (by omega)];have hp1:=hp.st ho (i:=2+(szL (f::r0):Int)) (by omega) (by omega) hv;have hp2:=hp1.st (Mem.put_lit _ _ ho) (i:=1) (by omega) (by simp only;omega) (zH ((szL (f::r0):Int)+1));have O:Off [s] M ((M.put s (2+(szL (f::r0):Int)) v).put s 1 (smW ((szL (f::r0):Int)+1))):=(Off.put _ _ _ _).trans (Off.put _ _ _ _);refine⟨rfl,_,hp2,⟨?_, ?_, ?_⟩,O⟩
 ·exact h.fib.off O (by simpa using h.ne)
 ·have:=h.seg.push (by rw[len_enc];exact hu) v;rw[len_enc,enc_push]at this;exact this
 ·refine⟨h.ok.1, ?_,h.ok.2.2⟩;simp only[List.length_append,List.length_singleton];omega
theorem Top.put_no(h:Top M x s prev below hand l0 cap (f::r0))(hp:Hq A m M)(v:Int)(hw:f.words.length=f.room):putF A m x v=(A,false):=by
 unfold putF;rw[h.no hp,h.words hp];unfold roomF;rw[(h.fib.g hp).2.1,h.b hp,h.h4 hp];simp only[Bool.false_eq_true,if_false];rw[if_pos (by omega)]
theorem Top.take_no(h:Top M x s prev below hand l0 cap (f::r0))(hp:Hq A m M)(hw:f.words=[]):takeF A m x=(A,45):=by
 unfold takeF;rw[h.words hp,hw,if_pos (by rfl)]
theorem Top.take{v:Int}(h:Top M x s prev below hand l0 cap ({ f with words:=f.words++[v]}::r0))(hp:Hq A m M):
 (takeF A m x).2=v∧∃M',Hq (takeF A m x).1 m M'∧Top M' x s prev below hand l0 cap (f::r0)∧Off [s] M M':=by
 have hz:=h.sz hp;have hl:=h.len;have u:=h.used hp;have hw:=h.words hp;obtain⟨g,ho,g0,g1,g2⟩:=h.seg.ex;simp only[List.length_append,List.length_singleton]at hz hl hw
 have hu:szL (({ f with words:=f.words++[v]}:Frm)::r0)=szL (f::r0)+1:=by
  simp only[szL,Frm.len,List.length_append,List.length_singleton];omega
 have hlt:szL (f::r0)<cap:=by simp only[szL,Frm.len];omega
 rw[hu]at u;unfold takeF usedF;rw[hw,if_neg (by omega),(h.fib.g hp).2.1,u];have e1:((szL (f::r0)+1:Nat):Int)-1=(szL (f::r0):Int):=by omega
 rw[e1];have hp1:=hp.st ho (i:=1) (by omega) (by simp only;omega) (zH (szL (f::r0)));refine⟨?_,_,hp1,⟨?_, ?_, ?_⟩,Off.put _ _ _ _⟩
 ·simp only;rw[hp1.gt (Mem.put_lit _ _ ho),if_pos ⟨by omega,by simp only;omega⟩];simp only;rw[if_neg (by omega),g2 _ (by rw[len_enc,hu];omega),←enc_push,List.getElem?_append_right (by rw[len_enc];omega),len_enc]
  simp
 ·exact h.fib.off (Off.put _ _ _ _) (by simpa using h.ne)
 ·have:=h.seg.cut (k:=szL (f::r0)) (by rw[len_enc,hu];omega);rw[←enc_push,List.take_left' (len_enc _ _)]at this;exact this
 ·exact⟨h.ok.1,by omega,h.ok.2.2⟩
theorem Top.pop(h:Top M x s prev below hand l0 cap (f::r0))(hp:Hq A m M)(hr:r0≠[]∨prev%8≠1):
 (popF A m x).2=true∧∃M',Hq (popF A m x).1 m M'∧Top M' x s prev below hand l0 cap r0∧Off [s,x] M M':=by
 have hz:=h.sz hp;have hl:=h.len;have b:=h.b hp;have h2:=h.h2 hp;obtain⟨o,ho,hn,_⟩:=h.seg.obj;have hp1:=hp.st ho (i:=1) (by omega) (by omega) (zH (szL r0));have S1:=h.seg.cut (k:=szL r0) (by rw[len_enc];simp only[szL];omega);have e1:(enc l0 (f::r0)).take (szL r0)=enc l0 r0:=by simp only[enc];rw[List.take_left' (len_enc _ _)]
 rw[e1]at S1;have g0:=S1.g0 hp1;have F1:=h.fib.off (Off.put M s 1 (smW (szL r0))) (by simpa using h.ne);obtain⟨o2,ho2,hn2,_⟩:=F1.obj;unfold popF;rw[h.no hp];simp only[Bool.false_eq_true,if_false]
 rw[(h.fib.g hp).2.1,b,h2,g0,if_neg (by
  rintro⟨c1,c2⟩;rcases hr with hr|hr
  ·cases r0 with
   |nil=>exact hr rfl
   |cons q r1=>simp only[szL,Frm.len]at c1;omega
  ·exact hr c2)]
 have hp2:=hp1.st ho2 (i:=2) (by omega) (by omega) (zH (lk l0 r0));refine⟨trivial,_,hp2,⟨?_, ?_,h.ok.2.2.2.2⟩, ?_⟩
 ·exact F1.base' _
 ·exact S1.off (Off.put _ _ _ _) (by simpa using Ne.symm h.ne)
 ·exact((Off.put _ _ _ _).mono (by simp)).trans ((Off.put _ _ _ _).mono (by simp))
end
end Go.Proofs.YtghkahcogphomaaGreat
