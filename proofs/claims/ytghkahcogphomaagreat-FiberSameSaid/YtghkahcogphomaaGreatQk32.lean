/- Fibers: a part of the walk. No condition. -/
import Derived.Test.YtghkahcogphomaaGreatQk31
import Derived.Deep.DeepCutAuto
import Derived.Laws.Rows
import Derived.Laws.ResultCell
set_option linter.all false
namespace Go.Proofs.YtghkahcogphomaaGreat
section
open Go.ChangeShapes Go.WideShapes Go.RowKit Go.Maps
variable{w w':World}{hb b wb lb:Nat}{A:Ar}{m N:Nat}{G K:List Bool}{D:Nat→Option Ob}
def RunG(hb b wb lb m:Nat)(rs:List Rw)(D:Nat→Option Ob)(ls:List (List Int))(p0 p1:Int)(w:World)(e:Ending)(w':World):Prop:=
 ∃(cl:Int→Int) (T:Tr) (ls':List (List Int)) (G K:List Bool) (C:Nat→Option Ob) (ms:List Nat),After D m cl ls ls' T G K C ms∧(p0≤0∨p1≤0→T.moved=0)∧
  e=.returned (.agg #[.int .i64 T.live,.int .i64 T.moved,.int .i64 (zW T.A.sweep.lines m)])∧HeAt w' hb b wb lb T.A.sweep∧RowsIn w' rs ls'∧Fr (b::wb::lb::rs.map Rw.g) w w'
theorem run_law(hH:HeAt w hb b wb lb A)(hg:HG A m G K D)(un:Unmarked A m)(hN: ∀j o,D j=some o→j<N)(hN2:N≤1000000)(hcl:Closed D)(rv:Value)(rs:List Rw)(ls:List (List Int))(hA:RowsArg w hb b wb lb rv rs)(hR:RowsIn w rs ls)
 (hl: ∀l,l∈ls→∀x,x∈l→x%8≠1∨∃j o,D j=some o∧x=pw o.a) (hw: ∀l,l∈ls→∀x,x∈l→0≤x∧x<18446744073709551616) (p0 p1:Int):
 Calls Tryz.prog 43 #[.pointer (some ⟨hb,0,none⟩),rv,.agg #[.int .i64 p0,.int .i64 p1]] w (RunG hb b wb lb m rs D ls p0 p1 w):=by
 refine(run_c2 hH hg.inv.ok hg.wd rv rs ls hA hR p0 p1 (P:=fun cl T ls'=>(p0≤0∨p1≤0→T.moved=0)∧∃G K C ms,After D m cl ls ls' T G K C ms) ?_).mono ?_
 ·intro cl least _ hpl;obtain⟨T,ls',G',K',C,ms,h1,h2⟩:=collect_law hg un hN hN2 hcl cl least ls hl hw;exact⟨T,ls',h1,fun hp=>h2.cz (fun x=>by rw[hpl hp]),G',K',C,ms,h2⟩
 ·rintro e w' ⟨cl,T,ls',⟨h1,G',K',C,ms,h2⟩,h3,h4,h5,h6⟩;exact⟨cl,T,ls',G',K',C,ms,h2,h1,h3,h4,h5,h6⟩
end
section
open Go.ChangeShapes Go.WideShapes Go.RowKit
variable{w0 w w1 w':World}{c:Sk}{X:List Nat}{k k':PK}{rs:List Int}{last:Value}{A:Ar}{m:Nat}{M:Mem}
def zZ(l:List Int):List Value:=l.map (Value.int .u64)
def TkAt(w:World)(B:Nat)(tv:Value)(rs:List Int):Prop:=w.ownsRow B 28 1 tv rs.length (zZ rs)∧(rs=[]→tv=.slice none 0 0)
theorem TkAt.fr{S:List Nat}{B:Nat}{tv:Value}(h:TkAt w B tv rs)(hF:Fr S w w')(hS: ∀x,tv.ownBlock=some x→x∉S):TkAt w' B tv rs:=⟨zL h.1 hF hS,h.2⟩
theorem TkAt.form{B:Nat}{tv:Value}(h:TkAt w B tv rs):(rs=[]∧tv=.slice none 0 0)∨∃g cap,tv=.slice (some ⟨g,0,none⟩) rs.length cap∧B≤g∧g<w.heap.size:=by
 obtain⟨⟨h1,h2⟩,_⟩:=h;rcases h2 with⟨h2,h3⟩|⟨g,cap,cur,hv,hb,hh,hn,_⟩
 ·exact .inl ⟨List.eq_nil_of_length_eq_zero h3,h2⟩
 ·exact .inr ⟨g,cap,hv,hb,zF hh⟩
theorem one_cell{arr:Array Value}(h:arr.size=1){v:Value}(h0:arr[0]? =some v):arr= #[v]:=by
 rcases arr with⟨l⟩
 match l,h with
 |[a],_=>simp at h0;rw[h0]
theorem ks_collect{B:Nat}{tv:Value}(h:Ks w w c X k rs)(hm:c.m≤600)(hT:TkAt w B tv rs)(hTa: ∀g,tv.ownBlock=some g→g∉c.all∧g∈X)(hlen:rs.length≤1000000)(g2:Nat)(hg2:blk w g2=some (.cells #[.slice (some ⟨c.rb,0,none⟩) 1 1,tv] 29 (0,0)))(h2a:g2∉c.all)(h2t:tv.ownBlock≠some g2)(p0 p1:Int):
 Calls Tryz.prog 43 #[.pointer (some ⟨c.hb,0,none⟩),.slice (some ⟨g2,0,none⟩) 2 2,.agg #[.int .i64 p0,.int .i64 p1]] w fun e w'=> ∃v rs',e=.returned v∧rs'.length=rs.length∧Ks w' w' c X k rs'∧TkAt w' B tv rs'∧Fr (c.own++tv.ownBlock.toList) w w':=by
 obtain⟨A,M,top,last,h1,h2,h3,h4⟩:=h.ex;obtain⟨G,K,D,q1,q2,q3,q4,q5,q6,q7⟩:=h3.run h2;have hmm:c.m*256≤600*256:=Nat.mul_le_mul_right _ hm;have ap:=h1.a.ap;simp only[List.nodup_cons,List.mem_cons,List.not_mem_nil,or_false,not_or]at ap;obtain⟨⟨a1,a2,a3,a4,a5,a6⟩,⟨b2,b3,b4,b5,b6⟩,⟨d3,d4,d5,d6⟩,⟨e4,e5,e6⟩,⟨f5,f6⟩,g6,_⟩:=ap
 have hall: ∀{x:Nat},x∉c.all→x≠c.kb∧x≠c.sb∧x≠c.rb∧x≠c.hb∧x≠c.b∧x≠c.wb∧x≠c.lb:=by
  intro x hx;simp only[Sk.all,List.mem_cons,List.not_mem_nil,or_false,not_or]at hx;exact hx
 obtain⟨r2,hr2v,hr2l,hr2i,hr2g,hr2n,hr2e⟩: ∃r2:Rw,tv=r2.v∧r2.l.length=rs.length∧RowIn w r2 rs∧(r2.g<w.heap.size∧r2.g∉ [c.hb,c.b,c.wb,c.lb])∧r2.g≠g2∧((rs=[]∧r2.g=c.rb∧tv=.slice none 0 0)∨∃cap,r2.s=cap∧tv=.slice (some ⟨r2.g,0,none⟩) rs.length cap∧r2.o=0∧rs.length≤cap∧cap≤maxLen∧B≤r2.g∧r2.g∉c.all∧r2.l=rs):=by
  obtain⟨⟨hl,hT⟩,_⟩:=hT;rcases hT with⟨t1,t2⟩|⟨g,cap,cur,t1,t2,t3,t4,t5,t6,t7⟩
  ·have hrs:=List.eq_nil_of_length_eq_zero t2;subst hrs;refine⟨⟨c.rb,0,0,0,none,[]⟩,t1,rfl,⟨rfl,.inl rfl⟩,⟨zF h1.a.r,by simp;exact⟨d3,d4,d5,d6⟩⟩, ?_,.inl ⟨rfl,rfl,t1⟩⟩;exact fun hc=>h2a (by rw[←hc];simp[Sk.all])
  ·have hga:=(hTa g (by rw[t1];rfl)).1;obtain⟨n1,n2,n3,n4,n5,n6,n7⟩:=hall hga;refine⟨⟨g,cap,0,cap,some ⟨g,0,none⟩,rs⟩,t1,rfl,⟨rfl,.inr ⟨rfl,cur,t3,by simpa using t6, ?_⟩⟩,⟨zF t3,by simp;exact⟨n4,n5,n6,n7⟩⟩, ?_,.inr ⟨cap,rfl,t1,rfl,t4,t5,t2,hga,rfl⟩⟩
   ·intro j hj;have hj':(zZ rs)[j]? =some (.int .u64 (rs[j]?.getD 0)):=by simp[zZ,List.getElem?_eq_getElem hj]
    rw[←t7,List.getElem?_take]at hj';rw[if_pos (by omega)]at hj';simp only[Nat.zero_add];rw[←Array.getElem?_toList];exact hj'
   ·intro hc;exact h2t (by rw[t1];show some g=some g2;rw[show g=g2 from hc])
 obtain⟨r1,hr1⟩: ∃r1:Rw,r1=⟨c.rb,1,0,1,some ⟨c.rb,0,none⟩,[top]⟩:=⟨_,rfl⟩
 have hR1:RowIn w r1 [top]:=by
  rw[hr1];refine⟨rfl,.inr ⟨rfl,_,h1.a.r,rfl, ?_⟩⟩;intro j hj
  match j,hj with
  |0,_=>rfl
 have hRows:RowsIn w [r1,r2] [[top],rs]:=by
  refine⟨rfl, ?_⟩;intro i r l hi hl
  match i with
  |0=>simp only[List.getElem?_cons_zero,Option.some.injEq]at hi hl;subst hi hl;exact hR1
  |1=>simp only[List.getElem?_cons_succ,List.getElem?_cons_zero,Option.some.injEq]at hi hl;subst hi hl;exact hr2i
  |i+2=>simp at hi
 have hr1g:r1.g=c.rb:=by rw[hr1]
 obtain⟨gk,gs,gr,gh,gb,gw,gl⟩:=hall h2a
 have hap12:r2.l=[]∨r1.g≠r2.g:=by
  rcases hr2e with⟨t1,_⟩|⟨cap,_,_,_,_,_,_,t7,_⟩
  ·exact .inl (List.eq_nil_of_length_eq_zero (by rw[hr2l,t1];rfl))
  ·right;rw[hr1g];exact Ne.symm (hall t7).2.2.1
 have hArg:RowsArg w c.hb c.b c.wb c.lb (.slice (some ⟨g2,0,none⟩) 2 2) [r1,r2]:=by
  refine⟨⟨_,2,rfl⟩, ?_, ?_, ?_,by simp, ?_⟩
  ·intro i r hi
   have hmem:g2∉ [r1,r2].map Rw.g:=by
    simp only[List.map_cons,List.map_nil,List.mem_cons,List.not_mem_nil,or_false,not_or];exact⟨by rw[hr1g];exact gr,Ne.symm hr2n⟩
   have hh:g2∉ [c.hb,c.b,c.wb,c.lb]:=by simp;exact⟨gh,gb,gw,gl⟩
   match i with
   |0=>
    simp only[List.getElem?_cons_zero,Option.some.injEq]at hi;subst hi;exact⟨g2,0,2,rfl,by rw[hr1];exact zA hg2 rfl,hh,hmem⟩
   |1=>
    simp only[List.getElem?_cons_succ,List.getElem?_cons_zero,Option.some.injEq]at hi;subst hi;exact⟨g2,0,2,rfl,by rw[←hr2v];exact zA hg2 rfl,hh,hmem⟩
   |i+2=>simp at hi
  ·intro r hr;simp only[List.mem_cons,List.not_mem_nil,or_false]at hr;rcases hr with rfl|rfl
   ·rw[hr1g];exact⟨zF h1.a.r,by simp;exact⟨d3,d4,d5,d6⟩⟩
   ·exact hr2g
  ·intro i j r s hij hi hj
   match i,j with
   |0,0=>exact absurd rfl hij
   |1,1=>exact absurd rfl hij
   |0,1=>
    simp only[List.getElem?_cons_zero,List.getElem?_cons_succ,Option.some.injEq]at hi hj;subst hi hj;rcases hap12 with h|h
    ·exact .inr (.inl h)
    ·exact .inr (.inr (.inl h))
   |1,0=>
    simp only[List.getElem?_cons_zero,List.getElem?_cons_succ,Option.some.injEq]at hi hj;subst hi hj;rcases hap12 with h|h
    ·exact .inl h
    ·exact .inr (.inr (.inl (Ne.symm h)))
   |i+2,_=>simp at hi
   |_,j+2=>simp at hj
  ·intro r hr;simp only[List.mem_cons,List.not_mem_nil,or_false]at hr;rcases hr with rfl|rfl
   ·rw[hr1];simp
   ·rw[hr2l];exact hlen
 refine(run_law h1.a.h q1 q2 q3 (by omega) q4 _ [r1,r2] [[top],rs] hArg hRows q5 q6 p0 p1).mono ?_;rintro e w' ⟨cl,T,ls',G',K',C,ms,hA,_,rfl,hH,hRo,hF⟩;obtain⟨top',rs',M',rfl,hlr,hHq,hRep⟩:=q7 cl T ls' G' K' C ms hA;have R1:=hRo.2 0 r1 [top'] rfl rfl;have R2:=hRo.2 1 r2 rs' rfl rfl
 have hFr:Fr (c.own++tv.ownBlock.toList) w w':=hF.mono (by
  intro x hx;refine .inl ?_;simp only[List.map_cons,List.map_nil,List.mem_cons,List.not_mem_nil,or_false]at hx;simp only[Sk.own,List.mem_append,List.mem_cons,List.not_mem_nil,or_false];rcases hx with rfl|rfl|rfl|rfl|rfl
  ·simp
  ·simp
  ·simp
  ·left;rw[hr1g];simp
  ·rcases hr2e with⟨_,t,_⟩|⟨cap,_,t,_⟩
   ·left;rw[t];simp
   ·right;rw[t];simp[Value.ownBlock])
 have hne: ∀x,x=c.kb∨x=c.sb→x∉c.b::c.wb::c.lb::[r1,r2].map Rw.g:=by
  intro x hx;simp only[List.map_cons,List.map_nil,List.mem_cons,List.not_mem_nil,or_false,not_or,hr1g]
  have hg: ∀y,y=c.kb∨y=c.sb→y≠r2.g:=by
   intro y hy hc;rcases hr2e with⟨_,t,_⟩|⟨cap,_,_,_,_,_,_,t7,_⟩
   ·rw[t]at hc;rcases hy with rfl|rfl
    ·exact a2 hc
    ·exact b2 hc
   ·obtain⟨m1,m2,_⟩:=hall t7;rcases hy with rfl|rfl
    ·exact m1 hc.symm
    ·exact m2 hc.symm
  have:=hg x hx;rcases hx with rfl|rfl
  ·exact⟨a4,a5,a6,a2,this⟩
  ·exact⟨b4,b5,b6,b2,this⟩
 have hroot:blk w' c.rb=some (.cells #[.int .u64 top'] 28 (0,0)):=by
  obtain⟨_,hx⟩:=R1;rcases hx with hx|⟨_,arr,ha,hs,hc⟩
  ·rw[hr1]at hx;cases hx
  ·rw[hr1g]at ha;rw[ha];have:=one_cell (by rw[hs,hr1]) (by have:=hc 0 (by simp);rw[hr1]at this;simpa using this);rw[this]
 have ht':W64 top':=(hRep.w hHq).1;have hSt:St w' w' c T.A.sweep top' last:=⟨⟨hF.at h1.a.k (hne _ (.inl rfl)),hF.at h1.a.s (hne _ (.inr rfl)),hroot,hH,hHq.okA,hHq.wdA,ht',h1.a.ap⟩,Fr.refl _ _⟩;refine⟨_,rs',rfl,hlr,⟨_,M',top',last,hSt,hHq,hRep, ?_⟩, ?_,hFr⟩
 ·refine h4.fr hFr ?_;intro x hx;rcases List.mem_append.1 hx with hx|hx
  ·exact .inl (zm hx)
  ·right;simp only[Option.mem_toList]at hx;exact(hTa x hx).2
 ·rcases hr2e with⟨t1,t2,t3⟩|⟨cap,t1,t2,t3,t4,t5,t6,t7,t8⟩
  ·subst t1;have:rs'=[]:=List.eq_nil_of_length_eq_zero hlr;subst this;exact⟨⟨rfl,.inl ⟨t3,rfl⟩⟩,fun _=>t3⟩
  ·obtain⟨hl2,hx⟩:=R2;have hrs:rs≠[]:=fun hc=>by have:=hT.2 hc;rw[t2]at this;cases this
   have hrs':rs'≠[]:=fun hc=>hrs (List.eq_nil_of_length_eq_zero (by rw[←hlr,hc];rfl))
   refine⟨?_,fun hc=>absurd hc hrs'⟩
   ·rcases hx with hx|⟨_,arr,ha,hs,hc⟩
    ·exact absurd (t8▸hx) hrs
    ·rw[t2,←hlr];refine own_mk ha t6 (by omega) t5 (by rw[hs,t1];omega) ?_;apply List.ext_getElem?;intro i;rw[List.getElem?_take];by_cases hi:i<rs'.length*1
     ·rw[if_pos hi];have:=hc i (by omega);rw[t3,Nat.zero_add]at this;rw[Array.getElem?_toList,this];simp[zZ,List.getElem?_eq_getElem (show i<rs'.length by omega)]
     ·rw[if_neg hi];rw[Nat.mul_one]at hi;rw[List.getElem?_eq_none (by unfold zZ;rw[List.length_map];omega)]
end
section
open Go.ChangeShapes Go.WideShapes Go.RowKit
variable{w w':World}{X X':List Nat}
structure SV where
 a:Option Addr
 n:Nat
 cap:Nat
def SV.v(s:SV):Value:=.slice s.a s.n s.cap
def SV.none:SV:=⟨.none,0,0⟩
structure Rd(X:List Nat)(w:World)(s:SV)(n size:Nat)(cs:List Value):Prop where
 ne:s.n=n
 cp:s.n≤s.cap∧s.cap≤maxLen
 len:cs.length=n*size
 one: ∀u,u∈cs→u.oneCell'=true
 at_:n=0∨∃g o,s.a=some ⟨g,o,none⟩∧g<w.heap.size∧g∉X∧∀i u,cs[i]? =some u→w.cell? ⟨g,o+i,none⟩=some u
variable{s:SV}{n size:Nat}{cs:List Value}
theorem Rd.fr{S:List Nat}(h:Rd X w s n size cs)(hF:Fr S w w')(hS: ∀x,x∈S→x∈X):Rd X w' s n size cs:=by
 refine⟨h.ne,h.cp,h.len,h.one, ?_⟩;rcases h.at_ with h|⟨g,o,h1,h2,h3,h4⟩
 ·exact .inl h
 ·exact .inr ⟨g,o,h1,Nat.lt_of_lt_of_le h2 hF.size,h3,fun i u hu=>by
   rw[←h4 i u hu];exact World.cell?_of_block (w:=w) (hF.block g h2 (fun hc=>h3 (hS g hc)))⟩
theorem Rd.blocks(h:Rd X w s n size cs)(hX: ∀x,x∈X'→x∈X∨w.heap.size≤x):Rd X' w s n size cs:=by
 refine⟨h.ne,h.cp,h.len,h.one, ?_⟩;rcases h.at_ with h|⟨g,o,h1,h2,h3,h4⟩
 ·exact .inl h
 ·refine .inr ⟨g,o,h1,h2,fun hc=> ?_,h4⟩;rcases hX g hc with h|h
  ·exact h3 h
  ·omega
theorem Rd.cell(h:Rd X w s n size cs){i:Nat}{u:Value}(hu:cs[i]? =some u): ∃g o,s.a=some ⟨g,o,none⟩∧w.cell? ⟨g,o+i,none⟩=some u∧g<w.heap.size:=by
 rcases h.at_ with h0|⟨g,o,h1,h2,h3,h4⟩
 ·have:=h.len;rw[h0,Nat.zero_mul]at this;rw[List.eq_nil_of_length_eq_zero this]at hu;cases hu
 ·exact⟨g,o,h1,h4 i u hu,h2⟩
theorem Rd.nil:Rd X w SV.none 0 size []:=⟨rfl,by simp[SV.none,maxLen],by simp,by simp,.inl rfl⟩
theorem Rd.of_own{B:Nat}{t:TypeId}{g cap:Nat}(h:w.ownsRow B t size (.slice (some ⟨g,0,none⟩) n cap) n cs)(h1: ∀u,u∈cs→u.oneCell'=true)(hX: ∀x,x∈X→x<B):Rd X w ⟨some ⟨g,0,none⟩,n,cap⟩ n size cs:=by
 refine⟨rfl,ZC h,own_len h,h1,.inr ⟨g,0,rfl,own_lt h,fun hc=> ?_,fun i u hu=> ?_⟩⟩
 ·have:=zN h;have:=hX g hc;omega
 ·rw[Nat.zero_add];exact zX h hu
theorem Rd.news(h:Rd X w s n size cs):n=0∨∃ad,s.a=some ad∧∀j u,cs[j]? =some u→w.cell? (ad.add j)=some u:=by
 rcases h.at_ with h|⟨g,o,h1,h2,h3,h4⟩
 ·exact .inl h
 ·exact .inr ⟨_,h1,fun j u hu=>by rw[Addr.add_lit];exact h4 j u hu⟩
theorem Rd.take(h:Rd X w s n size cs)(k:Nat)(hk:k≤n):Rd X w ⟨s.a,k,s.cap⟩ k size (cs.take (k*size)):=by
 have hl:=h.len;have hkn:k*size≤n*size:=Nat.mul_le_mul_right _ hk;refine⟨rfl,⟨by have:=h.cp.1;have:=h.ne;simp only;omega,h.cp.2⟩,by rw[List.length_take];omega,fun u hu=>h.one u (List.mem_of_mem_take hu), ?_⟩;rcases h.at_ with h|⟨g,o,h1,h2,h3,h4⟩
 ·exact .inl (by omega)
 ·refine .inr ⟨g,o,h1,h2,h3,fun i u hu=>h4 i u ?_⟩;rw[List.getElem?_take]at hu;split at hu
  ·exact hu
  ·cases hu
def WsR(X:List Nat)(w:World)(s:SV)(l:List Int):Prop:=Rd X w s l.length 1 (zZ l)
theorem WsR.nil:WsR X w SV.none []:=Rd.nil
structure FV where
 f:Frm
 s:SV
 q:SV
def FV.cells(x:FV):List Value:=[.int .u64 x.f.cl,.int .i64 x.f.pc,.int .i64 (x.f.room:Int),x.s.v,x.q.v]
def FV.Ok(X:List Nat)(w:World)(x:FV):Prop:=WsR X w x.s x.f.slots∧WsR X w x.q x.f.words
def FsR(X:List Nat)(w:World)(s:SV)(L:List FV):Prop:=Rd X w s L.length 5 (L.flatMap FV.cells)∧∀x,x∈L→x.Ok X w
theorem FV.Ok.fr{S:List Nat}{x:FV}(h:x.Ok X w)(hF:Fr S w w')(hS: ∀x,x∈S→x∈X):x.Ok X w':=⟨Rd.fr h.1 hF hS,Rd.fr h.2 hF hS⟩
theorem FV.Ok.blocks{x:FV}(h:x.Ok X w)(hX: ∀x,x∈X'→x∈X∨w.heap.size≤x):x.Ok X' w:=⟨Rd.blocks h.1 hX,Rd.blocks h.2 hX⟩
theorem FsR.fr{S:List Nat}{L:List FV}(h:FsR X w s L)(hF:Fr S w w')(hS: ∀x,x∈S→x∈X):FsR X w' s L:=⟨h.1.fr hF hS,fun x hx=>(h.2 x hx).fr hF hS⟩
theorem FsR.blocks{L:List FV}(h:FsR X w s L)(hX: ∀x,x∈X'→x∈X∨w.heap.size≤x):FsR X' w s L:=⟨h.1.blocks hX,fun x hx=>(h.2 x hx).blocks hX⟩
structure BV where
 p:PF
 F:List FV
 fr:SV
 l:SV
 q:SV
def BV.deep(x:BV):Bool:=match x.p.h with|none=>false|some H=>H.deep
def BV.ret(x:BV):Int:=match x.p.h with|none=>0|some H=>H.ret
def BV.cells(x:BV):List Value:=[x.fr.v,.bool x.p.h.isSome,.bool x.deep,.int .u64 x.ret,x.l.v,x.q.v]
def HvR(X:List Nat)(w:World)(h:Option PH)(l q:SV):Prop:=match h with
 |none=>l=SV.none∧q=SV.none
 |some H=>WsR X w l H.ls∧WsR X w q H.ps
structure BV.Ok(X:List Nat)(w:World)(x:BV):Prop where
 e:x.F.map FV.f=x.p.fr.reverse
 f:FsR X w x.fr x.F
 h:HvR X w x.p.h x.l x.q
theorem HvR.fr{S:List Nat}{h:Option PH}{l q:SV}(hh:HvR X w h l q)(hF:Fr S w w')(hS: ∀x,x∈S→x∈X):HvR X w' h l q:=by
 cases h with
 |none=>exact hh
 |some H=>exact⟨Rd.fr hh.1 hF hS,Rd.fr hh.2 hF hS⟩
theorem HvR.blocks{h:Option PH}{l q:SV}(hh:HvR X w h l q)(hX: ∀x,x∈X'→x∈X∨w.heap.size≤x):HvR X' w h l q:=by
 cases h with
 |none=>exact hh
 |some H=>exact⟨Rd.blocks hh.1 hX,Rd.blocks hh.2 hX⟩
theorem BV.Ok.fr{S:List Nat}{x:BV}(h:x.Ok X w)(hF:Fr S w w')(hS: ∀x,x∈S→x∈X):x.Ok X w':=⟨h.e,h.f.fr hF hS,h.h.fr hF hS⟩
theorem BV.Ok.blocks{x:BV}(h:x.Ok X w)(hX: ∀x,x∈X'→x∈X∨w.heap.size≤x):x.Ok X' w:=⟨h.e,h.f.blocks hX,h.h.blocks hX⟩
def BsR(X:List Nat)(w:World)(s:SV)(L:List BV):Prop:=Rd X w s L.length 6 (L.flatMap BV.cells)∧∀x,x∈L→x.Ok X w
theorem BsR.fr{S:List Nat}{L:List BV}(h:BsR X w s L)(hF:Fr S w w')(hS: ∀x,x∈S→x∈X):BsR X w' s L:=⟨h.1.fr hF hS,fun x hx=>(h.2 x hx).fr hF hS⟩
theorem BsR.blocks{L:List BV}(h:BsR X w s L)(hX: ∀x,x∈X'→x∈X∨w.heap.size≤x):BsR X' w s L:=⟨h.1.blocks hX,fun x hx=>(h.2 x hx).blocks hX⟩
structure QV where
 t:Option (List PF)
 L:List BV
 s:SV
def QV.cells(x:QV):List Value:=[.bool x.t.isNone,x.s.v]
def QV.Ok(X:List Nat)(w:World)(x:QV):Prop:=match x.t with
 |none=>x.s=SV.none
 |some l=>x.L.map BV.p=l.reverse∧BsR X w x.s x.L
theorem QV.Ok.fr{S:List Nat}{x:QV}(h:x.Ok X w)(hF:Fr S w w')(hS: ∀x,x∈S→x∈X):x.Ok X w':=by
 unfold QV.Ok at h⊢;cases ht:x.t with
 |none=>rw[ht]at h;exact h
 |some l=>rw[ht]at h;exact⟨h.1,h.2.fr hF hS⟩
theorem QV.Ok.blocks{x:QV}(h:x.Ok X w)(hX: ∀x,x∈X'→x∈X∨w.heap.size≤x):x.Ok X' w:=by
 unfold QV.Ok at h⊢;cases ht:x.t with
 |none=>rw[ht]at h;exact h
 |some l=>rw[ht]at h;exact⟨h.1,h.2.blocks hX⟩
def QsR(X:List Nat)(w:World)(s:SV)(L:List QV):Prop:=Rd X w s L.length 2 (L.flatMap QV.cells)∧∀x,x∈L→x.Ok X w
theorem QsR.fr{S:List Nat}{L:List QV}(h:QsR X w s L)(hF:Fr S w w')(hS: ∀x,x∈S→x∈X):QsR X w' s L:=⟨h.1.fr hF hS,fun x hx=>(h.2 x hx).fr hF hS⟩
theorem QsR.blocks{L:List QV}(h:QsR X w s L)(hX: ∀x,x∈X'→x∈X∨w.heap.size≤x):QsR X' w s L:=⟨h.1.blocks hX,fun x hx=>(h.2 x hx).blocks hX⟩
structure MdR(X:List Nat)(w:World)(f t:SV)(k:PK):Prop where
 f: ∃L,L.map BV.p=k.fs.reverse∧BsR X w f L
 t: ∃L,L.map QV.t=k.tk∧QsR X w t L
theorem MdR.fr{S:List Nat}{f t:SV}{k:PK}(h:MdR X w f t k)(hF:Fr S w w')(hS: ∀x,x∈S→x∈X):MdR X w' f t k:=by
 obtain⟨⟨L,h1,h2⟩,⟨Q,h3,h4⟩⟩:=h;exact⟨⟨L,h1,h2.fr hF hS⟩,⟨Q,h3,h4.fr hF hS⟩⟩
theorem MdR.keep{f t:SV}{k:PK}(h:MdR X w f t k)(hF:Fr [] w w'):MdR X w' f t k:=h.fr hF (by simp)
theorem MdR.blocks{f t:SV}{k:PK}(h:MdR X w f t k)(hX: ∀x,x∈X'→x∈X∨w.heap.size≤x):MdR X' w f t k:=by
 obtain⟨⟨L,h1,h2⟩,⟨Q,h3,h4⟩⟩:=h;exact⟨⟨L,h1,h2.blocks hX⟩,⟨Q,h3,h4.blocks hX⟩⟩
theorem flat_len{α:Type}(c:α→List Value)(n:Nat)(hc: ∀x,(c x).length=n)(L:List α):(L.flatMap c).length=L.length*n:=by
 induction L with
 |nil=>simp
 |cons x L ih=>simp only[List.flatMap_cons,List.length_append,hc,ih,List.length_cons];rw[Nat.add_mul];omega
theorem flat_get{α:Type}(c:α→List Value)(n:Nat)(hc: ∀x,(c x).length=n): ∀(L:List α) (i k:Nat) (x:α),L[i]? =some x→k<n→(L.flatMap c)[i*n+k]? =(c x)[k]? :=by
 intro L
 induction L with
 |nil=>intro i k x h;simp at h
 |cons y L ih=>
  intro i k x h hk;cases i with
  |zero=>
   simp only[List.getElem?_cons_zero,Option.some.injEq]at h;subst h;simp only[List.flatMap_cons,Nat.zero_mul,Nat.zero_add];rw[List.getElem?_append_left (by rw[hc];exact hk)]
  |succ i=>
   simp only[List.getElem?_cons_succ]at h;simp only[List.flatMap_cons];rw[List.getElem?_append_right (by rw[hc,Nat.add_mul];omega),hc,show(i+1)*n+k-n=i*n+k by rw[Nat.add_mul];omega];exact ih i k x h hk
theorem zl{α:Type}(c:α→List Value)(hc: ∀x u,u∈c x→u.oneCell'=true)(L:List α): ∀u,u∈L.flatMap c→u.oneCell'=true:=by
 intro u hu;obtain⟨x,_,hx⟩:=List.mem_flatMap.1 hu;exact hc x u hx
theorem FV.len(x:FV):x.cells.length=5:=rfl
theorem BV.len(x:BV):x.cells.length=6:=rfl
theorem QV.len(x:QV):x.cells.length=2:=rfl
theorem FV.one(x:FV): ∀u,u∈x.cells→u.oneCell'=true:=by
 intro u hu;simp only[FV.cells,SV.v,List.mem_cons,List.not_mem_nil,or_false]at hu;rcases hu with rfl|rfl|rfl|rfl|rfl<;>rfl
theorem BV.one(x:BV): ∀u,u∈x.cells→u.oneCell'=true:=by
 intro u hu;simp only[BV.cells,SV.v,List.mem_cons,List.not_mem_nil,or_false]at hu;rcases hu with rfl|rfl|rfl|rfl|rfl|rfl<;>rfl
theorem QV.one(x:QV): ∀u,u∈x.cells→u.oneCell'=true:=by
 intro u hu;simp only[QV.cells,SV.v,List.mem_cons,List.not_mem_nil,or_false]at hu;rcases hu with rfl|rfl<;>rfl
theorem zz(l:List Int): ∀u,u∈zZ l→u.oneCell'=true:=by
 intro u hu;unfold zZ at hu;obtain⟨x,_,rfl⟩:=List.mem_map.1 hu;rfl
theorem BsR.el{L:List BV}(h:BsR X w s L){i:Nat}{x:BV}(hx:L[i]? =some x): ∃g o,s.a=some ⟨g,o,none⟩∧g<w.heap.size∧
 w.cell? ⟨g,o+i*6,none⟩=some x.fr.v∧w.cell? ⟨g,o+i*6+1,none⟩=some (.bool x.p.h.isSome)∧w.cell? ⟨g,o+i*6+2,none⟩=some (.bool x.deep)∧w.cell? ⟨g,o+i*6+3,none⟩=some (.int .u64 x.ret)∧w.cell? ⟨g,o+i*6+4,none⟩=some x.l.v∧w.cell? ⟨g,o+i*6+5,none⟩=some x.q.v:=by
 have e:=fun k hk=>flat_get BV.cells 6 BV.len L i k x hx hk
 obtain⟨g,o,h1,h2,h3⟩:=h.1.cell (i:=i*6) (u:=x.fr.v) (by have:=e 0 (by omega);simpa[BV.cells]using this);refine⟨g,o,h1,h3,h2, ?_⟩
 have go: ∀(k:Nat) (u:Value),k<6→x.cells[k]? =some u→w.cell? ⟨g,o+i*6+k,none⟩=some u:=by
  intro k u hk hu;obtain⟨g',o',q1,q2,_⟩:=h.1.cell (i:=i*6+k) (u:=u) (by rw[e k hk];exact hu);rw[h1]at q1;injection q1 with q1
  injection q1 with q1 q2'
  subst q1 q2';rw[Nat.add_assoc];exact q2
 exact⟨go 1 _ (by omega) rfl,go 2 _ (by omega) rfl,go 3 _ (by omega) rfl,go 4 _ (by omega) rfl,go 5 _ (by omega) rfl⟩
theorem FsR.el{L:List FV}(h:FsR X w s L){i:Nat}{x:FV}(hx:L[i]? =some x): ∃g o,s.a=some ⟨g,o,none⟩∧g<w.heap.size∧
 w.cell? ⟨g,o+i*5,none⟩=some (.int .u64 x.f.cl)∧w.cell? ⟨g,o+i*5+1,none⟩=some (.int .i64 x.f.pc)∧w.cell? ⟨g,o+i*5+2,none⟩=some (.int .i64 (x.f.room:Int))∧w.cell? ⟨g,o+i*5+3,none⟩=some x.s.v∧w.cell? ⟨g,o+i*5+4,none⟩=some x.q.v:=by
 have e:=fun k hk=>flat_get FV.cells 5 FV.len L i k x hx hk
 obtain⟨g,o,h1,h2,h3⟩:=h.1.cell (i:=i*5) (u:=.int .u64 x.f.cl) (by have:=e 0 (by omega);simpa[FV.cells]using this);refine⟨g,o,h1,h3,h2, ?_⟩
 have go: ∀(k:Nat) (u:Value),k<5→x.cells[k]? =some u→w.cell? ⟨g,o+i*5+k,none⟩=some u:=by
  intro k u hk hu;obtain⟨g',o',q1,q2,_⟩:=h.1.cell (i:=i*5+k) (u:=u) (by rw[e k hk];exact hu);rw[h1]at q1;injection q1 with q1
  injection q1 with q1 q2'
  subst q1 q2';rw[Nat.add_assoc];exact q2
 exact⟨go 1 _ (by omega) rfl,go 2 _ (by omega) rfl,go 3 _ (by omega) rfl,go 4 _ (by omega) rfl⟩
theorem QsR.el{L:List QV}(h:QsR X w s L){i:Nat}{x:QV}(hx:L[i]? =some x): ∃g o,s.a=some ⟨g,o,none⟩∧g<w.heap.size∧w.cell? ⟨g,o+i*2,none⟩=some (.bool x.t.isNone)∧w.cell? ⟨g,o+i*2+1,none⟩=some x.s.v:=by
 have e:=fun k hk=>flat_get QV.cells 2 QV.len L i k x hx hk
 obtain⟨g,o,h1,h2,h3⟩:=h.1.cell (i:=i*2) (u:=.bool x.t.isNone) (by have:=e 0 (by omega);simpa[QV.cells]using this);refine⟨g,o,h1,h3,h2, ?_⟩;obtain⟨g',o',q1,q2,_⟩:=h.1.cell (i:=i*2+1) (u:=x.s.v) (by rw[e 1 (by omega)];rfl);rw[h1]at q1;injection q1 with q1
 injection q1 with q1 q2'
 subst q1 q2';rw[Nat.add_assoc];exact q2
theorem WsR.el{l:List Int}(h:WsR X w s l){i:Nat}{x:Int}(hx:l[i]? =some x): ∃g o,s.a=some ⟨g,o,none⟩∧g<w.heap.size∧w.cell? ⟨g,o+i,none⟩=some (.int .u64 x):=by
 obtain⟨g,o,h1,h2,h3⟩:=Rd.cell h (i:=i) (u:=.int .u64 x) (by unfold zZ;rw[List.getElem?_map,hx];rfl);exact⟨g,o,h1,h3,h2⟩
end
section
open Go.ChangeShapes Go.WideShapes Go.RowKit
theorem load_st{T n:Nat}(w:World)(g:Nat)(cs:Array Value)(hb:blk w g=some (.cells cs T (0,0)))(hn:cs.size=n)(hz:((Tryz.prog).info? T).map (·.size)=some n)(hu:(match(Tryz.prog).underlying T with|some (.struct _)|some (.array _ _)=>true|_=>false)=true):(loadVar T ⟨g,0,none⟩).run Tryz.prog w=.ok (.agg cs) w:=by
 cases hd:(Tryz.prog).underlying T with
 |none=>rw[hd]at hu;cases hu
 |some d=>
  refine run_loadVar_row (P:=Tryz.prog) w g T T cs (0,0) d hb hd ?_ (by rw[hn];exact hz);rw[hd]at hu;cases d<;>first|rfl|cases hu
theorem ret_st{fn:Func}{p T n:Nat}(h:fn.results= #[.cell p T])(tmps:Array Value)(w:World)(g:Nat)(cs:Array Value)(hp:tmps.getD p undef=.pointer (some ⟨g,0,none⟩))(hb:blk w g=some (.cells cs T (0,0)))(hn:cs.size=n)(hz:((Tryz.prog).info? T).map (·.size)=some n)(hu:(match(Tryz.prog).underlying T with|some (.struct _)|some (.array _ _)=>true|_=>false)=true):
 (results fn tmps).run Tryz.prog w=.ok (.agg cs) w:=by
 cases hd:(Tryz.prog).underlying T with
 |none=>rw[hd]at hu;cases hu
 |some d=>
  refine results_cell_row h tmps w g T cs (0,0) d hp hb hd ?_ (by rw[hn];exact hz);rw[hd]at hu;cases d<;>first|rfl|cases hu
theorem ze{fn:Func}{p T n u:Nat}(h:fn.results= #[.cell p T,.tmp u])(tmps:Array Value)(w:World)(g:Nat)(cs:Array Value)(hp:tmps.getD p undef=.pointer (some ⟨g,0,none⟩))(hb:blk w g=some (.cells cs T (0,0)))(hn:cs.size=n)(hz:((Tryz.prog).info? T).map (·.size)=some n)(hu:(match(Tryz.prog).underlying T with|some (.struct _)|some (.array _ _)=>true|_=>false)=true):
 (results fn tmps).run Tryz.prog w=.ok (.tuple #[.agg cs,tmps.getD u undef]) w:=by
 have:=load_st w g cs hb hn hz hu;rw[results_cell_tmp h,hp];simp[asAddr,this]
theorem ret_st3{fn:Func}{p T n u v:Nat}(h:fn.results= #[.cell p T,.tmp u,.tmp v])(tmps:Array Value)(w:World)(g:Nat)(cs:Array Value)(hp:tmps.getD p undef=.pointer (some ⟨g,0,none⟩))(hb:blk w g=some (.cells cs T (0,0)))(hn:cs.size=n)(hz:((Tryz.prog).info? T).map (·.size)=some n)(hu:(match(Tryz.prog).underlying T with|some (.struct _)|some (.array _ _)=>true|_=>false)=true):
 (results fn tmps).run Tryz.prog w=.ok (.tuple #[.agg cs,tmps.getD u undef,tmps.getD v undef]) w:=by
 have hl:=load_st w g cs hb hn hz hu;have hp':tmps[p]?.getD undef=.pointer (some ⟨g,0,none⟩):=by simpa using hp
 simp[results,h,hp',asAddr,hl]
theorem zj{ops:Array Oper}{rest:List Oper}{o:Oper}{a:Act}{Q:Exit→Act→World→Prop}(w:World)(hgd:o.guard=none)(s x:Operand)(t:TypeId)
 (ho:o.op=.call { callee:=.builtin .append,args:= #[s,x],argTypes:= #[t,t]})
 (base:Nat) (e:TypeId) (i:TypeInfo) (z:Value) (size bytes:Nat) (ht:Tryz.prog.underlying t=some (.slice e)) (hi:Tryz.prog.info? e=some i) (hz:i.zero=some z)
 (hsize:i.size=size) (hby:i.bytes=bytes) (hzs:z.cells.size=size) (hsz:0<size)
 (g0 c0 n:Nat) (xs:List Value) (hs:a.eval s=.slice (some ⟨g0,0,none⟩) n c0) (hown:w.ownsRow base e size (.slice (some ⟨g0,0,none⟩) n c0) n xs)
 (ad:Addr) (m c:Nat) (news:List Value) (hx:a.eval x=.slice (some ad) m c) (hl:news.length=m*size) (hnews: ∀j u,news[j]? =some u→w.cell? (ad.add j)=some u) (h1: ∀u∈news,u.oneCell'=true)
 (h63:n+m≤maxLen) (hbytes:(n+m)*bytes≤140737488355328) (hbase:base≤w.heap.size)
 (h: ∀g cap w',w'.ownsRow base e size (.slice (some ⟨g,0,none⟩) (n+m) cap) (n+m) (xs++news)→Fr [g0] w w'→(g=g0∨w.heap.size≤g)→wpList Tryz.prog ops Q rest (a.put o.dst (.slice (some ⟨g,0,none⟩) (n+m) cap)) w'):wpList Tryz.prog ops Q (o::rest) a w:=by
 by_cases hm:0<m
 ·exact wpList_append_lies w hgd s x t ho base e i z size bytes ht hi hz hsize hby hzs hsz _ n xs hs hown ad m c news hx hl hnews h1 hm h63 hbytes hbase _ rfl
   (fun g cap w' h2 h3 h4 _=>h g cap w' h2 (grown_fr h3) (h4.imp (fun h=>by simp only[Value.ownBlock,Option.some.injEq]at h;exact h.symm) (fun h=>by omega)))
 ·have hm0:m=0:=by omega
  subst hm0;have hn0:news=[]:=List.eq_nil_of_length_eq_zero (by rw[hl,Nat.zero_mul]);subst hn0;have hc:=ZC hown
  have hr:(Builtin.append_ #[t,t] o.type #[.slice (some ⟨g0,0,none⟩) n c0,.slice (some ad) 0 c]).run Tryz.prog w=.ok (.slice (some ⟨g0,0,none⟩) n c0) w:=by
   simp[Builtin.append_,run_underlying ht,sizeOf,typeInfo,hi,Builtin.lenOf,Builtin.firstCells,loadCells,loadCellsFrom,hc.1];rw[storeCells];rfl
  refine wpList_plain hgd fun K hK=> ?_
  unfold Oper.wp execOp;simp only[ho,resolve,invoke,builtin,Sem.run_bind,Sem.run_pure,Result.andThen_ok,List.map_toArray,List.map_cons,List.map_nil,hs,hx,hr];exact hK _ _ (h g0 c0 w (by simpa using hown) (Fr.refl _ _) (.inl rfl))
theorem zQ{ops:Array Oper}{rest:List Oper}{o:Oper}{a:Act}{Q:Exit→Act→World→Prop}(w:World)(hgd:o.guard=none)(s x:Operand)(t:TypeId)
 (ho:o.op=.call { callee:=.builtin .append,args:= #[s,x],argTypes:= #[t,t]})
 (base:Nat) (e:TypeId) (i:TypeInfo) (z:Value) (size bytes:Nat) (ht:Tryz.prog.underlying t=some (.slice e)) (hi:Tryz.prog.info? e=some i) (hz:i.zero=some z)
 (hsize:i.size=size) (hby:i.bytes=bytes) (hzs:z.cells.size=size) (hsz:0<size)
 (g0 c0 n:Nat) (xs:List Value) (hs:a.eval s=.slice (some ⟨g0,0,none⟩) n c0) (hown:w.ownsRow base e size (.slice (some ⟨g0,0,none⟩) n c0) n xs)
 (oa:Option Addr) (m c:Nat) (news:List Value) (hx:a.eval x=.slice oa m c) (hl:news.length=m*size) (hnews:m=0∨∃ad,oa=some ad∧∀j u,news[j]? =some u→w.cell? (ad.add j)=some u) (h1: ∀u∈news,u.oneCell'=true)
 (h63:n+m≤maxLen) (hbytes:(n+m)*bytes≤140737488355328) (hbase:base≤w.heap.size)
 (h: ∀g cap w',w'.ownsRow base e size (.slice (some ⟨g,0,none⟩) (n+m) cap) (n+m) (xs++news)→Fr [g0] w w'→(g=g0∨w.heap.size≤g)→wpList Tryz.prog ops Q rest (a.put o.dst (.slice (some ⟨g,0,none⟩) (n+m) cap)) w'):wpList Tryz.prog ops Q (o::rest) a w:=by
 by_cases hm:m=0
 ·subst hm;have hn0:news=[]:=List.eq_nil_of_length_eq_zero (by rw[hl,Nat.zero_mul]);subst hn0;cases oa with
  |some ad=>exact zj w hgd s x t ho base e i z size bytes ht hi hz hsize hby hzs hsz g0 c0 n xs hs hown ad 0 c [] hx hl (fun j u hu=>by simp at hu) h1 h63 hbytes hbase h
  |none=>
   have hc:=ZC hown
   have hr:(Builtin.append_ #[t,t] o.type #[.slice (some ⟨g0,0,none⟩) n c0,.slice none 0 c]).run Tryz.prog w=.ok (.slice (some ⟨g0,0,none⟩) n c0) w:=by
    simp[Builtin.append_,run_underlying ht,sizeOf,typeInfo,hi,Builtin.lenOf,Builtin.firstCells,loadCells,loadCellsFrom,hc.1];rw[storeCells];rfl
   refine wpList_plain hgd fun K hK=> ?_
   unfold Oper.wp execOp;simp only[ho,resolve,invoke,builtin,Sem.run_bind,Sem.run_pure,Result.andThen_ok,List.map_toArray,List.map_cons,List.map_nil,hs,hx,hr];exact hK _ _ (h g0 c0 w (by simpa using hown) (Fr.refl _ _) (.inl rfl))
 ·rcases hnews with h0|⟨ad,rfl,hc⟩
  ·exact absurd h0 hm
  ·exact zj w hgd s x t ho base e i z size bytes ht hi hz hsize hby hzs hsz g0 c0 n xs hs hown ad m c news hx hl hc h1 h63 hbytes hbase h
theorem zd{w w':World}{S:List Nat}{g i:Nat}{v:Value}(h:w.cell? ⟨g,i,none⟩=some v)(hF:Fr S w w')(hg:g∉S):w'.cell? ⟨g,i,none⟩=some v:=by
 have hlt:g<w.heap.size:=by
  rcases Nat.lt_or_ge g w.heap.size with hl|hl
  ·exact hl
  ·unfold World.cell? at h;rw[Array.getElem?_eq_none (by simpa using hl)]at h;simp at h
 rw[←h];exact World.cell?_of_block (w:=w) (hF.block g hlt hg)
end
end Go.Proofs.YtghkahcogphomaaGreat
