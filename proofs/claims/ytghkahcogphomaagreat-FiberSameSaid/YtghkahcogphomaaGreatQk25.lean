/- Fibers: a part of the walk. No condition. -/
import Derived.Test.YtghkahcogphomaaGreatQk24
set_option linter.all false
section
namespace Go.Proofs.YtghkahcogphomaaGreat
variable{A A':Ar}{m N:Nat}{G K:List Bool}{C D D0:Nat→Option Ob}{M M':Mem}{x top:Int}{k:PK}{rs fp:List Int}{ms:List Nat}{Tt:Tr}{cl:Int→Int}
noncomputable def atD (D:Nat→Option Ob) (P:Int→Prop):Nat→Option Ob:=fun a=>
 open Classical in if h: ∃j o,D j=some o∧o.a=a∧P (pw a)then D h.choose else none
theorem atD_some{P:Int→Prop}{a:Nat}{o:Ob}(h:atD D P a=some o):(∃j,D j=some o)∧o.a=a∧P (pw a):=by
 unfold atD at h;split at h
 ·rename_i hh
  obtain⟨o2,h1,h2,h3⟩:=hh.choose_spec;rw[h1]at h;injection h with h
  subst h;exact⟨⟨_,h1⟩,h2,h3⟩
 ·cases h
theorem atD_of{P:Int→Prop}(hg:HG A m G K D){j:Nat}{o:Ob}(h:D j=some o)(hP:P (pw o.a)):atD D P o.a=some o:=by
 have hh: ∃j o',D j=some o'∧o'.a=o.a∧P (pw o.a):=⟨j,o,h,rfl,hP⟩;unfold atD;rw[dif_pos hh];obtain⟨o2,h1,h2,h3⟩:=hh.choose_spec;rw[h1];have:=hg.uniq h1 h h2;rw[this]at h1;rw[h]at h1;exact h1.symm
theorem HG.at(hg:HG A m G K D)(P:Int→Prop):HG A m G K (atD D P):=by
 refine⟨hg.inv,hg.wd, ?_, ?_⟩
 ·intro j o ho;obtain⟨⟨i,hi⟩,_⟩:=atD_some ho;exact hg.ob i o hi
 ·intro i j o p hij ho hp;obtain⟨⟨i',hi⟩,e1,_⟩:=atD_some ho;obtain⟨⟨j',hj⟩,e2,_⟩:=atD_some hp;refine hg.ap i' j' o p ?_ hi hj;rintro rfl;rw[hi]at hj;injection hj with hj
  subst hj;exact hij (e1.symm.trans e2)
theorem cnt_eq{q:Ob}{o:MObj}(h1:(q.kind:Int)=o.kind)(h2:(q.fs.length:Int)=o.n)(h3: ∀i:Nat,i<q.fs.length→q.fs[i]?.getD 0=o.f i):cntO q=cntM o:=by
 unfold cntO cntM;rw[h1,h2];by_cases h:2≤q.fs.length
 ·rw[show o.f 1=q.fs[1]?.getD 0 from(h3 1 (by omega)).symm]
 ·unfold countF;by_cases hc:16≤o.kind∧o.kind<32
  ·rw[if_pos hc,if_pos hc]
  ·rw[if_neg hc,if_neg hc,if_pos (by omega),if_pos (by omega)]
noncomputable def newM (C:Nat→Option Ob) (ms:List Nat):Mem:=fun y=>
 open Classical in if h: ∃j c,j∈ms∧C j=some c∧y=pw c.a then(C h.choose).map fun c=>⟨c.kind,c.fs.length,fun i=>c.fs[i.toNat]?.getD 0⟩else none
theorem newM_some{y:Int}{o:MObj}(h:newM C ms y=some o): ∃j c,j∈ms∧C j=some c∧y=pw c.a∧o=⟨c.kind,c.fs.length,fun i=>c.fs[i.toNat]?.getD 0⟩:=by
 unfold newM at h;split at h
 ·rename_i hh
  obtain⟨c,h1,h2,h3⟩:=hh.choose_spec;rw[h2]at h;simp only[Option.map_some,Option.some.injEq]at h;exact⟨_,c,h1,h2,h3,h.symm⟩
 ·cases h
theorem newM_of(hg:HG A m G K (keptD C ms)){j:Nat}{c:Ob}(hj:j∈ms)(hc:C j=some c):newM C ms (pw c.a)=some ⟨c.kind,c.fs.length,fun i=>c.fs[i.toNat]?.getD 0⟩:=by
 have hh: ∃j' c',j'∈ms∧C j'=some c'∧pw c.a=pw c'.a:=⟨j,c,hj,hc,rfl⟩;unfold newM;rw[dif_pos hh];obtain⟨c2,h1,h2,h3⟩:=hh.choose_spec;have e:hh.choose=j:=hg.uniq (show keptD C ms hh.choose=some c2 by unfold keptD;rw[if_pos h1];exact h2) (show keptD C ms j=some c by unfold keptD;rw[if_pos hj];exact hc) (pw_inj h3).symm;rw[e,hc];rfl
theorem Hq.new(hg:HG A m G K (keptD C ms))(hu:Unmarked A m)(hN: ∀j,j∈ms→j<N):Hq A m (newM C ms):=by
 refine⟨hu,G,K,_,N,hg, ?_, ?_⟩
 ·intro j o ho;unfold keptD at ho;split at ho
  ·rename_i h;exact hN j h
  ·cases ho
 ·intro y o hy;obtain⟨j,c,h1,h2,rfl,rfl⟩:=newM_some hy;refine⟨j,c,by unfold keptD;rw[if_pos h1];exact h2,rfl,rfl,rfl,fun i hi=>by simp⟩
theorem Rep.run(h:Rep M top k rs)(hp:Hq A m M): ∃G K D,HG A m G K D∧Unmarked A m∧(∀j o,D j=some o→j<m*256)∧Closed D∧
 (∀l,l∈[[top],rs]→∀x,x∈l→x%8≠1∨∃j o,D j=some o∧x=pw o.a)∧(∀l,l∈[[top],rs]→∀x,x∈l→0≤x∧x<18446744073709551616)∧
 ∀(cl:Int→Int) (T:Tr) (ls':List (List Int)) (G' K':List Bool) (C:Nat→Option Ob) (ms:List Nat),After D m cl [[top],rs] ls' T G' K' C ms→∃top' rs' M',ls'=[[top'],rs']∧rs'.length=rs.length∧Hq T.A.sweep m M'∧Rep M' top' k rs':=by
 have htw:=h.w hp;have hrw:=(h.rsw hp).1;have hh:=h;obtain⟨⟨f1,f2,h1,h2,h3⟩,h4⟩:=h;have hp':=hp;obtain⟨hu,G,K,D0,N,hg,hN,hm⟩:=hp;obtain⟨P,hPd⟩: ∃P:Int→Prop,P=fun z=>z∈f1∨z∈f2∨∃H,Hdl M z H∧H.Ok:=⟨_,rfl⟩
 have P1: ∀z,z∈f1→P z:=fun z hz=>by rw[hPd];exact .inl hz
 have P2: ∀z,z∈f2→P z:=fun z hz=>by rw[hPd];exact .inr (.inl hz)
 have PH: ∀z H,Hdl M z H→H.Ok→P z:=fun z H hz hH=>by rw[hPd];exact .inr (.inr ⟨H,hz,hH⟩)
 have g1:=RC.good (P:=P) hp' PH (.inl (by decide)) h1 P1;have g2:=RTs.good (P:=P) hp' PH h2 P2
 have good: ∀z,P z→∃o,M z=some o∧Good P o:=by
  intro z hz;rw[hPd]at hz;rcases hz with hz|hz|⟨H,hz,hH⟩
  ·exact g1.1 z hz
  ·exact g2.1 z hz
  ·exact hz.good hH
 have inD: ∀z,P z→∃q o,atD D0 P q.a=some q∧z=pw q.a∧M z=some o∧Good P o∧(q.kind:Int)=o.kind∧(q.fs.length:Int)=o.n∧∀i:Nat,i<q.fs.length→q.fs[i]?.getD 0=o.f i:=by
  intro z hz;obtain⟨o,ho,hgo⟩:=good z hz;obtain⟨j,q,hq,rfl,e1,e2,e3⟩:=hm z o ho;exact⟨q,o,atD_of hg hq hz,rfl,ho,hgo,e1,e2,e3⟩
 have hgD:=hg.at P
 have hroot: ∀l,l∈[[top],rs]→∀x,x∈l→W64 x∧P x:=by
  intro l hl x hx;simp only[List.mem_cons,List.not_mem_nil,or_false]at hl;rcases hl with rfl|rfl
  ·simp only[List.mem_cons,List.not_mem_nil,or_false]at hx;subst hx;refine⟨htw.1, ?_⟩;rcases g1.2 with h|h
   ·exact absurd htw.2 h
   ·exact h
  ·exact⟨(hrw x hx).1,g2.2 x hx⟩
 refine⟨G,K,atD D0 P,hgD,hu, ?_, ?_, ?_,fun l hl x hx=>(hroot l hl x hx).1, ?_⟩
 ·intro j o ho;obtain⟨⟨i,hi⟩,e,_⟩:=atD_some ho;have:=(hg.ob i o hi).b;have:=o.ee;omega
 ·intro j o i ho hi;obtain⟨_,e,hz⟩:=atD_some ho;obtain⟨q,mo,q1,q2,q3,q4,q5,q6,q7⟩:=inD _ hz
  have:q=o:=by
   have ea:q.a=j:=(pw_inj q2).symm;rw[ea,ho]at q1;injection q1 with q1
   exact q1.symm
  subst this;rw[cnt_eq q5 q6 q7]at hi
  have hlen:i<q.fs.length:=by
   have:=cntO_le q;rw[cnt_eq q5 q6 q7]at this;omega
  rw[q7 i hlen];rcases q4 i hi with h|h
  ·exact .inl h
  ·obtain⟨q',mo',k1,k2,_⟩:=inD _ h;exact .inr ⟨q'.a,q',k1,k2⟩
 ·intro l hl x hx;obtain⟨q',mo',k1,k2,_⟩:=inD _ (hroot l hl x hx).2;exact .inr ⟨q'.a,q',k1,k2⟩
 ·intro cl T ls' G' K' C ms hA;have rl:=hA.rl
  obtain⟨l1,l2,rfl⟩: ∃l1 l2,ls'=[l1,l2]:=by
   match ls',rl with
   |[a,b],_=>exact⟨a,b,rfl⟩
  have r0:=hA.rt 0 (by simp);have r1:=hA.rt 1 (by simp);simp only[List.getElem?_cons_zero,List.getElem?_cons_succ,Option.getD_some]at r0 r1;obtain⟨top',rfl⟩: ∃t,l1=[t]:=List.length_eq_one_iff.1 (by simpa using r0.1);have t0:=r0.2 0 (by simp);simp only[List.getElem?_cons_zero,Option.getD_some]at t0
  have hms: ∀j,j∈ms→j<m*256:=by
   intro j hj;obtain⟨o,c,e1,_⟩:=hA.mo j hj;obtain⟨⟨i,hi⟩,e,_⟩:=atD_some e1;have:=(hg.ob i o hi).b;have:=o.ee;omega
  refine⟨top',l2,newM C ms,rfl,r1.1,Hq.new hA.hg hA.mr hms, ?_⟩;refine hh.mv hp' (T:=Tx (atD D0 P) C ms) ⟨?_, ?_, ?_⟩ ?_ t0 r1
  ·intro x y hx hn;exact hx.non hn
  ·intro x y o hx ho ht;rcases hx with⟨h,_⟩|⟨kk,ok,ck,e1,rfl,e3,e4,rfl⟩
   ·exact absurd ht h
   ·obtain⟨o1,c1,m1,m2,m3,_⟩:=hA.mo kk e3;rw[e1]at m1;injection m1 with m1
    rw[e4]at m2;injection m2 with m2
    subst m1 m2;obtain⟨j,q,hq,eq,f1',f2',f3'⟩:=hm _ o ho;obtain⟨⟨i,hi⟩,ea,_⟩:=atD_some e1;have hji:=hg.uniq hi hq (pw_inj eq);subst hji;rw[hi]at hq;injection hq with hq
    subst hq;refine⟨_,newM_of hA.hg e3 e4, ?_, ?_, ?_⟩
    ·simp only;rw[m3.k];exact f1'
    ·simp only;rw[m3.l];exact f2'
    ·intro i hi';rw[←cnt_eq f1' f2' f3']at hi';have hlen:i<ok.fs.length:=Nat.lt_of_lt_of_le hi' (cntO_le ok);have:=m3.a i hi' hlen;rw[f3' i hlen]at this;simpa using this
  ·intro x x' y hx hx' h1 h2;rcases hx with⟨h,_⟩|⟨kk,ok,ck,e1,rfl,e3,e4,e5⟩
   ·exact absurd h1 h
   ·rcases hx' with⟨h,_⟩|⟨kk',ok',ck',e1',rfl,e3',e4',e5'⟩
    ·exact absurd h2 h
    ·have e:kk=kk':=hA.hg.uniq (show keptD C ms kk=some ck by unfold keptD;rw[if_pos e3];exact e4) (show keptD C ms kk'=some ck' by unfold keptD;rw[if_pos e3'];exact e4') (pw_inj (e5.symm.trans e5'));subst e;rw[e1]at e1';injection e1' with e1'
     rw[e1']
  ·intro x y y' hx hy;rcases hx with⟨h,rfl⟩|⟨kk,ok,ck,e1,rfl,e3,e4,rfl⟩
   ·exact(hy.non h).symm
   ·rcases hy with⟨h,_⟩|⟨kk',ok',ck',e1',e2',e3',e4',rfl⟩
    ·exact absurd (pw_mod _) h
    ·have e:kk=kk':=hgD.uniq e1 e1' (pw_inj e2');subst e;rw[e4]at e4';injection e4' with e4'
     rw[e4']
theorem cntB_le(f:Nat→Bool)(N:Nat):cntB f N≤N:=by
 induction N with
 |zero=>exact Nat.le_refl _
 |succ N ih=>unfold cntB;split<;>omega
theorem Hq.many(h:Hq A m M)(l:List Int)(hn:l.Nodup)(hl: ∀x,x∈l→∃o,M x=some o):l.length≤m*256:=by
 obtain⟨_,G,K,D,N,hg,_,hm⟩:=h
 have hb: ∀x,x∈l→∃a:Nat,x=pw a∧a<m*256:=by
  intro x hx;obtain⟨o,ho⟩:=hl x hx;obtain⟨j,q,hq,rfl,_⟩:=hm x o ho;have:=(hg.ob j q hq).b;have:=q.ee;exact⟨q.a,rfl,by omega⟩
 have hnd:(l.map fun x=>(x/8).toNat).Nodup:=by
  induction l with
  |nil=>simp
  |cons x l ih=>
   rw[List.map_cons,List.nodup_cons];rw[List.nodup_cons]at hn;refine⟨?_,ih hn.2 (fun y hy=>hl y (by simp[hy])) (fun y hy=>hb y (by simp[hy]))⟩;intro hc;obtain⟨y,hy,e⟩:=List.mem_map.1 hc;obtain⟨a,rfl,_⟩:=hb x (by simp);obtain⟨c,rfl,_⟩:=hb y (by simp[hy]);rw[pw_div,pw_div]at e;simp only[Int.toNat_natCast]at e;subst e;exact hn.1 hy
 have:=len_count (fun j=>(l.map fun x=>(x/8).toNat).contains j) (m*256) _ hnd (fun j=>by
  constructor
  ·intro hj;refine⟨?_,by simpa using hj⟩;obtain⟨y,hy,e⟩:=List.mem_map.1 hj;obtain⟨c,rfl,hc⟩:=hb y hy;rw[pw_div]at e;simp only[Int.toNat_natCast]at e;omega
  ·rintro⟨_,hj⟩;simpa using hj)
 rw[List.length_map]at this;rw[this];exact cntB_le _ _
theorem RC.many{e:Int}(hp:Hq A m M){l:List PF}{fp:List Int}(h:RC M e l x fp):l.length≤m*256:=by
 have hl:l.length≤fp.length:=by
  clear hp
  induction l generalizing x fp with
  |nil=>simp
  |cons p l ih=>
   obtain⟨y,f1,f2,h1,h2,rfl,_⟩:=h;have:=ih h2
   have:1≤f1.length:=by
    have:=h1.mem;cases f1 with
    |nil=>cases this
    |cons=>simp
   simp;omega
 exact Nat.le_trans hl (hp.many fp (RC.nd h) (fun z hz=>by obtain⟨o,ho,_⟩:=RC.dom h z hz;exact⟨o,ho⟩))
end Go.Proofs.YtghkahcogphomaaGreat
end
section
namespace Go.Proofs.YtghkahcogphomaaGreat
open Go.ChangeShapes Go.WideShapes Go.RowKit
def fa1:Ar:=(fibF (Ar.new 20) 20 45 45).1
def fb1:Ar:=(objF fa1 20 8 (entL true 8 [16] [24] 1)).1
def fa2:Ar:=(fibF fb1 20 1 41).1
def fb2:Ar:=(objF fa2 20 8 (entL false 32 [40] [48] 1)).1
def fa3:Ar:=(fibF fb2 20 81 121).1
def fb3:Ar:=(objF fa3 20 6 [smW 0,161,81]).1
def fa4:Ar:=capF fa3 20 161 81 201
def fa5:Ar:=(pushF fa4 20 1 8 1 1).1
def fa6:Ar:=resF fa5 20 1 201
namespace fiberAlive
theorem e0:(fibF (Ar.new 20) 20 45 45).2=some 1:=by decide+kernel
theorem e1:(objF fa1 20 8 (entL true 8 [16] [24] 1)).2=some 41:=by decide+kernel
theorem e2:(fibF fb1 20 1 41).2=some 81:=by decide+kernel
theorem e3:(objF fa2 20 8 (entL false 32 [40] [48] 1)).2=some 121:=by decide+kernel
theorem e4:(fibF fb2 20 81 121).2=some 161:=by decide+kernel
theorem e5:chF fa3 20 10 161=some 3:=by decide+kernel
theorem e6:srF fa3 20 16 10 161 0=some (some (1,3)):=by decide+kernel
theorem e7:srOk fa3 20 10 161=true:=by decide+kernel
theorem e8:dnF fa3 20 1 161=some 81:=by decide+kernel
theorem e9:gtF fa3 20 (gtF fa3 20 81 3) 3=24:=by decide+kernel
theorem e10:lowF fa3 20 81=false:=by decide+kernel
theorem e11:(objF fa3 20 6 [smW 0,161,81]).2=some 201:=by decide+kernel
theorem e12:hasF fb3 20 81=true:=by decide+kernel
theorem e13:nmF fb3 20 (gtF fb3 20 81 3) 0=1:=by decide+kernel
theorem e14:gtF fb3 20 81 0=1:=by decide+kernel
theorem e15:chF fa4 20 10 1=some 1:=by decide+kernel
theorem e16:(pushF fa4 20 1 8 1 1).2=true:=by decide+kernel
theorem e17:rmF fa4 20 (gtF fa4 20 1 1)=0:=by decide+kernel
theorem e18:(placeF fa4 20 1 (5+1+1)).2=some 38913:=by decide+kernel
theorem e19:nmF (placeF fa4 20 1 (5+1+1)).1 20 38913 1=0:=by decide+kernel
theorem e20:freshF fa5 20 201=0:=by decide+kernel
theorem e21:gtF fa5 20 201 1=161:=by decide+kernel
theorem e22:chF fa6 20 10 161=some 3:=by decide+kernel
theorem e23:freshF fa6 20 201=201:=by decide+kernel
end fiberAlive
end Go.Proofs.YtghkahcogphomaaGreat
end
section
namespace Go.Proofs.YtghkahcogphomaaGreat
open Go.ChangeShapes Go.WideShapes Go.RowKit
variable{w0 w w1 w':World}{c:Sk}{A A':Ar}{top:Int}{last:Value}
theorem fd_at(h:St w0 w c A top last)(ws:List Int)(t:TypeId)(w2:World)(g:Nat)(hg:w.heap.size≤g)(h2:blk w2 g=some (.cells (ws.map (Value.int .u64)).toArray t (0,0))):FdAt w2 c (some ⟨g,0,none⟩) ws:=
 .inr ⟨g,0,rfl,zF h2,fun hx=>by have:=sk_lt h hx;omega,fun i hi=>by
  rw[Nat.zero_add];exact zA h2 (by simp[hi])⟩
theorem zu{x:Int}(h:0≤x∧x≤1000000):W64 x:=by unfold W64;omega
theorem one_w64(x:Int)(h:0≤x∧x≤1000000): ∀y,y∈[x]→W64 y:=by
 intro y hy;simp at hy;subst hy;exact zu h
open fiberAlive in
set_option maxRecDepth 100000 in
set_option maxHeartbeats 4000000 in
theorem fiberAlive_c(w:World):Calls Tryz.prog 5 #[] w fun e w'=>e=.returned (.bool true)∧Fr [] w w':=by
 have CV:=Lib.hid (vnew_c 20 20 (by decide) (by omega) (by omega) w)
 have CN:Hid (∀(w1:World) (c:Sk),c.m=20→Sp w1 w1 c (Ar.new 20)→w.heap.size≤w1.heap.size→Ge w.heap.size c→Calls Tryz.prog 14 #[.pointer (some ⟨c.sb,0,none⟩),.bool true] w1 (NewSt 20 true fa1 1 w1 w.heap.size)):=Lib.hid (fun w1 c hm h hB hG=>by
  have:=knew_c h true w.heap.size hB hG 1 (by rw[hm];exact e0) (zu (by omega));rw[hm]at this;exact this)
 have C1:Hid (∀(w2:World) (c:Sk),c.m=20→∀wa,St w2 wa c fa1 1 (.pointer none)→Calls Tryz.prog 15 #[.pointer (some ⟨c.kb,0,none⟩),.bool true,.int .u64 8,.slice (some ⟨wa.heap.size,0,none⟩) 1 1,.slice (some ⟨wa.heap.size+1,0,none⟩) 1 1] ((wa.alloc (.cells #[.int .u64 16] 28)).alloc (.cells #[.int .u64 24] 28)) fun e w'=>e=.returned (.bool true)∧St w2 w' c fa2 81 (.pointer none)):=Lib.hid (fun w2 c hm wa ha=>by
  have hB0:blk ((wa.alloc (.cells #[.int .u64 16] 28)).alloc (.cells #[.int .u64 24] 28)) wa.heap.size=some (.cells #[.int .u64 16] 28 (0,0)):=by rw[zB,if_neg (by rw[zC];omega),zB,if_pos rfl]
  have hB1:blk ((wa.alloc (.cells #[.int .u64 16] 28)).alloc (.cells #[.int .u64 24] 28)) (wa.heap.size+1)=some (.cells #[.int .u64 24] 28 (0,0)):=by rw[zB,if_pos (by rw[zC])]
  have:=kenter_c ((ha.alloc (.cells #[.int .u64 16] 28)).alloc (.cells #[.int .u64 24] 28)) true 8 (zu (by omega)) [16] [24] (one_w64 _ (by omega)) (one_w64 _ (by omega)) 1 rfl rfl (by omega) (some ⟨wa.heap.size,0,none⟩) (some ⟨wa.heap.size+1,0,none⟩) 1 1 (fd_at ha _ 28 _ _ (Nat.le_refl _) hB0) (fd_at ha _ 28 _ _ (Nat.le_succ _) hB1) 41 81 (by rw[hm];exact e1) (zu (by omega)) (by rw[hm];exact e2) (zu (by omega));rw[hm]at this;exact this)
 have C2:Hid (∀(w2:World) (c:Sk),c.m=20→∀wa,St w2 wa c fa2 81 (.pointer none)→Calls Tryz.prog 15 #[.pointer (some ⟨c.kb,0,none⟩),.bool false,.int .u64 32,.slice (some ⟨wa.heap.size,0,none⟩) 1 1,.slice (some ⟨wa.heap.size+1,0,none⟩) 1 1] ((wa.alloc (.cells #[.int .u64 40] 28)).alloc (.cells #[.int .u64 48] 28)) fun e w'=>e=.returned (.bool true)∧St w2 w' c fa3 161 (.pointer none)):=Lib.hid (fun w2 c hm wa ha=>by
  have hB0:blk ((wa.alloc (.cells #[.int .u64 40] 28)).alloc (.cells #[.int .u64 48] 28)) wa.heap.size=some (.cells #[.int .u64 40] 28 (0,0)):=by rw[zB,if_neg (by rw[zC];omega),zB,if_pos rfl]
  have hB1:blk ((wa.alloc (.cells #[.int .u64 40] 28)).alloc (.cells #[.int .u64 48] 28)) (wa.heap.size+1)=some (.cells #[.int .u64 48] 28 (0,0)):=by rw[zB,if_pos (by rw[zC])]
  have:=kenter_c ((ha.alloc (.cells #[.int .u64 40] 28)).alloc (.cells #[.int .u64 48] 28)) false 32 (zu (by omega)) [40] [48] (one_w64 _ (by omega)) (one_w64 _ (by omega)) 1 rfl rfl (by omega) (some ⟨wa.heap.size,0,none⟩) (some ⟨wa.heap.size+1,0,none⟩) 1 1 (fd_at ha _ 28 _ _ (Nat.le_refl _) hB0) (fd_at ha _ 28 _ _ (Nat.le_succ _) hB1) 121 161 (by rw[hm];exact e3) (zu (by omega)) (by rw[hm];exact e4) (zu (by omega));rw[hm]at this;exact this)
 have C3:Hid (∀(w2:World) (c:Sk),c.m=20→∀wa,St w2 wa c fa3 161 (.pointer none)→Calls Tryz.prog 10 #[.pointer (some ⟨c.kb,0,none⟩)] wa fun e w'=>e=.returned (.int .i64 3)∧St w2 w' c fa3 161 (.pointer none)):=Lib.hid (fun w2 c hm wa ha=>by
  exact kfibers_c ha 10 3 (by rw[hm];exact e5) (by omega))
 have C4:Hid (∀(w2:World) (c:Sk),c.m=20→∀wa,St w2 wa c fa3 161 (.pointer none)→Calls Tryz.prog 9 #[.pointer (some ⟨c.kb,0,none⟩),.int .u64 16] wa fun e w'=>e=.returned (.tuple #[.int .i64 1,.int .u64 24,.bool true])∧St w2 w' c fa3 161 (.pointer none)):=Lib.hid (fun w2 c hm wa ha=>by
  have:=kfind_none ha 16 (zu (by omega)) (by decide) 10 (some (1,3)) 81 (zu (by omega)) (by rw[hm];exact e6) (by rw[hm];exact e7) (by omega) (fun u i hh=>by
   simp at hh;obtain⟨rfl,rfl⟩:=hh;exact⟨by omega,by omega,by rw[hm];exact e8⟩)
  rw[hm]at this;simp only[findVal']at this;rw[show((3:Nat):Int)=3 from rfl,e9]at this;exact this)
 have C5:Hid (∀(w2:World) (c:Sk),c.m=20→∀wa,St w2 wa c fa3 161 (.pointer none)→Calls Tryz.prog 16 #[.pointer (some ⟨c.kb,0,none⟩),.int .i64 1] wa fun e w'=>e=.returned (.tuple #[.int .u64 201,.bool true])∧St w2 w' c fa4 1 (.pointer none)):=Lib.hid (fun w2 c hm wa ha=>by
  have:=kcapture_deep ha 1 (by omega) 81 201 (zu (by omega)) (zu (by omega)) (by rw[hm];exact e8) (by rw[hm];exact e10) (by rw[hm];exact e11) (by rw[hm];exact e12) (by rw[hm];show nmF fb3 20 (gtF fb3 20 81 3) 0≠0;rw[e13];decide);rw[hm]at this;rw[show gtF (objF fa3 20 6 [smW 0,161,81]).1 20 81 0=1 from e14]at this;exact this)
 have C6:Hid (∀(w2:World) (c:Sk),c.m=20→∀wa,St w2 wa c fa4 1 (.pointer none)→Calls Tryz.prog 10 #[.pointer (some ⟨c.kb,0,none⟩)] wa fun e w'=>e=.returned (.int .i64 1)∧St w2 w' c fa4 1 (.pointer none)):=Lib.hid (fun w2 c hm wa ha=>by
  exact kfibers_c ha 10 1 (by rw[hm];exact e15) (by omega))
 have C7:Hid (∀(w2:World) (c:Sk),c.m=20→∀wa,St w2 wa c fa4 1 (.pointer none)→Calls Tryz.prog 17 #[.pointer (some ⟨c.kb,0,none⟩),.int .u64 8,.int .i64 1,.int .i64 1] wa fun e w'=>e=.returned (.bool true)∧St w2 w' c fa5 1 (.pointer none)):=Lib.hid (fun w2 c hm wa ha=>by
  have:=kpush_c ha 8 1 1 (zu (by omega)) (by omega) (by rw[hm];intro hx;exact absurd e17 hx) (by
   rw[hm];intro seg hs;rw[e18]at hs;simp at hs;subst hs;rw[e19];exact⟨zu (by omega),by omega,by omega⟩)
  rw[hm,e16]at this;exact this)
 have C8:Hid (∀(w2:World) (c:Sk),c.m=20→∀wa,St w2 wa c fa5 1 (.pointer none)→Calls Tryz.prog 18 #[.pointer (some ⟨c.kb,0,none⟩),.int .u64 201] wa fun e w'=>e=.returned (.int .i64 0)∧St w2 w' c fa6 161 (.pointer none)):=Lib.hid (fun w2 c hm wa ha=>by
  have:=kresume_yes ha 201 (zu (by omega)) (by rw[hm];exact e20);rw[hm,e21]at this;exact this)
 have C9:Hid (∀(w2:World) (c:Sk),c.m=20→∀wa,St w2 wa c fa6 161 (.pointer none)→Calls Tryz.prog 10 #[.pointer (some ⟨c.kb,0,none⟩)] wa fun e w'=>e=.returned (.int .i64 3)∧St w2 w' c fa6 161 (.pointer none)):=Lib.hid (fun w2 c hm wa ha=>by
  exact kfibers_c ha 10 3 (by rw[hm];exact e22) (by omega))
 have C10:Hid (∀(w2:World) (c:Sk),c.m=20→∀wa,St w2 wa c fa6 161 (.pointer none)→Calls Tryz.prog 18 #[.pointer (some ⟨c.kb,0,none⟩),.int .u64 201] wa fun e w'=>e=.returned (.int .i64 201)∧St w2 w' c fa6 161 (.pointer none)):=Lib.hid (fun w2 c hm wa ha=>by
  have:=kresume_no ha 201 (zu (by omega)) (by rw[hm,e23];decide);rw[hm,e23]at this;exact this)
 generalize fa1=a1 at*;generalize fa2=a2 at*;generalize fa3=a3 at*;generalize fa4=a4 at*;generalize fa5=a5 at*;generalize fa6=a6 at*;go_enter Tryz.func5,Tryz.ntmps5;go_wp2_with fail;refine CV.out.mono ?_;rintro e w1 ⟨c1,rfl,hm1,hS1,hF1,hG1⟩;have CN1:=Lib.hid (CN.out w1 c1 hm1 hS1 hF1.size hG1);have F1:=Lib.hid hF1;clear CV CN hm1 hS1 hF1 hG1;go_wp2_with fail;refine CN1.out.mono ?_;rintro e w2 ⟨c,rfl,hm,_,h2,hgs,hfr⟩;have F2:=Lib.hid (hfr w (Nat.le_refl _) F1.out);have G:=Lib.hid hgs.own;replace C1:=Lib.hid (C1.out w2 c hm);replace C2:=Lib.hid (C2.out w2 c hm);replace C3:=Lib.hid (C3.out w2 c hm);replace C4:=Lib.hid (C4.out w2 c hm);replace C5:=Lib.hid (C5.out w2 c hm);replace C6:=Lib.hid (C6.out w2 c hm);replace C7:=Lib.hid (C7.out w2 c hm);replace C8:=Lib.hid (C8.out w2 c hm);replace C9:=Lib.hid (C9.out w2 c hm);replace C10:=Lib.hid (C10.out w2 c hm);have H2:=Lib.hid h2;clear CN1 F1 hm hgs hfr h2;go_wp2_with fail;refine(C1.out _ H2.out).mono ?_;rintro e v1 ⟨rfl,h1⟩;have K1:=Lib.hid h1;clear C1 h1;go_wp2_with fail;refine(C2.out _ K1.out).mono ?_;rintro e v2 ⟨rfl,h2⟩;have K2:=Lib.hid h2;clear C2 h2;go_wp2_with fail;refine(C3.out _ K2.out).mono ?_;rintro e v3 ⟨rfl,h3⟩;have K3:=Lib.hid h3;clear C3 h3;go_wp2_with fail;refine(C4.out _ K3.out).mono ?_;rintro e v4 ⟨rfl,h4⟩;have K4:=Lib.hid h4;clear C4 h4;go_wp2_with fail;refine(C5.out _ K4.out).mono ?_;rintro e v5 ⟨rfl,h5⟩;have K5:=Lib.hid h5;clear C5 h5;go_wp2_with fail;refine(C6.out _ K5.out).mono ?_;rintro e v6 ⟨rfl,h6⟩;have K6:=Lib.hid h6;clear C6 h6;go_wp2_with fail;refine(C7.out _ K6.out).mono ?_;rintro e v7 ⟨rfl,h7⟩;have K7:=Lib.hid h7;clear C7 h7;go_wp2_with fail;refine(C8.out _ K7.out).mono ?_;rintro e v8 ⟨rfl,h8⟩;have K8:=Lib.hid h8;clear C8 h8;go_wp2_with fail;refine(C9.out _ K8.out).mono ?_;rintro e v9 ⟨rfl,h9⟩;have K9:=Lib.hid h9;clear C9 h9;go_wp2_with fail;refine(C10.out _ K9.out).mono ?_;rintro e v10 ⟨rfl,h10⟩;have K10:=Lib.hid h10;clear C10 h10;go_wp2;go_ret;exact⟨rfl,F2.out.trans K10.out.fr (fun x hx=> .inr (G.out x hx))⟩
end Go.Proofs.YtghkahcogphomaaGreat
end
