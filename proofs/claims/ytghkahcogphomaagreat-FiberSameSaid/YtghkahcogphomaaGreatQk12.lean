/- Fibers: a part of the walk. No condition. -/
import Derived.Test.YtghkahcogphomaaGreatQk11
import Derived.Maps.OwnOps
import Derived.Maps.OwnSet
set_option linter.all false
section
namespace Go.Proofs.YtghkahcogphomaaGreat
open Go.ChangeShapes Go.WideShapes Go.RowKit
structure C2 where
 b:Int
 f:Int
instance:Inhabited C2:=⟨⟨0,0⟩⟩
def zi(l:List C2):List Value:=l.flatMap fun e=>[.int .i64 e.b,.int .i64 e.f]
theorem entCells_get(l:List C2)(i:Nat)(h:i<l.length):(zi l)[i*2]? =some (.int .i64 (nth l i).b)∧(zi l)[i*2+1]? =some (.int .i64 (nth l i).f):=by
 induction l generalizing i with
 |nil=>simp at h
 |cons x l ih=>
  cases i with
  |zero=>simp[zi,nth]
  |succ i=>
   obtain⟨h1,h2⟩:=ih i (by simpa using h);have e:zi (x::l)=[.int .i64 x.b,.int .i64 x.f]++zi l:=rfl;have en:nth (x::l) (i+1)=nth l i:=by simp[nth]
   rw[e,en];refine⟨?_, ?_⟩
   ·rw[List.getElem?_append_right (by simp;omega)];simpa[show(i+1)*2-2=i*2 by omega]using h1
   ·rw[List.getElem?_append_right (by simp;omega)];simpa[show(i+1)*2+1-2=i*2+1 by omega]using h2
theorem entCells_set(l:List C2)(i:Nat)(x:C2)(h:i<l.length):((zi l).set (i*2) (.int .i64 x.b)).set (i*2+1) (.int .i64 x.f)=zi (l.set i x):=by
 induction l generalizing i with
 |nil=>simp at h
 |cons y l ih=>
  cases i with
  |zero=>simp[zi]
  |succ i=>
   have:=ih i (by simpa using h);have e:zi (y::l)=.int .i64 y.b:: .int .i64 y.f::zi l:=rfl;rw[e,show(i+1)*2=i*2+1+1 by omega,show i*2+1+1+1=i*2+1+1+1 from rfl];simp only[List.set_cons_succ];rw[this];rfl
def EnAt(w:World)(B:Nat)(v:Value)(l:List C2):Prop:=w.ownsRow B 159 2 v l.length (zi l)
variable{w:World}{B g cap:Nat}{l:List C2}
theorem EnAt.cells(h:EnAt w B (.slice (some ⟨g,0,none⟩) l.length cap) l){i:Nat}(hi:i<l.length):
 w.cell? ⟨g,i*2,none⟩=some (.int .i64 (nth l i).b)∧w.cell? ⟨g,i*2+1,none⟩=some (.int .i64 (nth l i).f):=by
 obtain⟨h1,h2⟩:=entCells_get l i hi;exact⟨zX h h1,zX h h2⟩
def ltE(a b:C2):Bool:=if a.f≠b.f then decide (b.f<a.f)else decide (a.b<b.b)
theorem less_c(w:World)(hE:EnAt w B (.slice (some ⟨g,0,none⟩) l.length cap) l)(i j:Nat)(hi:i<l.length)(hj:j<l.length):
 Calls Tryz.prog 151 #[.slice (some ⟨g,0,none⟩) l.length cap,.int .i64 (i:Int),.int .i64 (j:Int)] w fun e w'=>e=.returned (.bool (ltE (nth l i) (nth l j)))∧Fr [] w w':=by
 obtain⟨c0,c1⟩:=hE.cells hi;obtain⟨d0,d1⟩:=hE.cells hj;obtain⟨x,hx⟩: ∃x,x=nth l i:=⟨_,rfl⟩;obtain⟨y,hy⟩: ∃y,y=nth l j:=⟨_,rfl⟩;rw[←hx]at c0 c1⊢;rw[←hy]at d0 d1⊢;have hi':(i:Int)<(l.length:Int):=by omega
 have hj':(j:Int)<(l.length:Int):=by omega
 clear hx hy hE;generalize l.length=n at*;unfold ltE;by_cases h:x.f≠y.f
 ·rw[if_pos h];have hb:(x.f !=y.f)=true:=by simpa using h
  clear h;go_enter Tryz.func151,Tryz.ntmps151;go_wp2_with fail
  go_quiet (fail)
  go_wp2_with fail
  go_quiet (fail)
  go_wp2;go_ret;exact⟨rfl,by repeat (first|exact Fr.refl _ _|apply Fr.drewN|apply Fr.drew)⟩
 ·rw[if_neg h];have hb:(x.f !=y.f)=false:=by simpa using h
  clear h;go_enter Tryz.func151,Tryz.ntmps151;go_wp2_with fail
  go_quiet (fail)
  go_wp2_with fail
  go_quiet (fail)
  go_wp2;go_ret;exact⟨rfl,by repeat (first|exact Fr.refl _ _|apply Fr.drewN|apply Fr.drew)⟩
theorem len_c(w:World)(a:Option Addr)(n cap:Nat):Calls Tryz.prog 108 #[.slice a n cap] w fun e w'=>e=.returned (.int .i64 (n:Int))∧w=w':=by
 go_enter Tryz.func108,Tryz.ntmps108;go_wp2;go_ret;exact⟨rfl,rfl⟩
theorem swap_ne(w:World)(hE:EnAt w B (.slice (some ⟨g,0,none⟩) l.length cap) l)(i j:Nat)(hi:i<l.length)(hj:j<l.length)(hij:i≠j):
 Calls Tryz.prog 154 #[.slice (some ⟨g,0,none⟩) l.length cap,.int .i64 (i:Int),.int .i64 (j:Int)] w fun e w'=>e=.returned (.tuple #[])∧EnAt w' B (.slice (some ⟨g,0,none⟩) l.length cap) (swapL l i j)∧Fr [g] w w':=by
 obtain⟨c0,c1⟩:=hE.cells hi;obtain⟨d0,d1⟩:=hE.cells hj;obtain⟨x,hx⟩: ∃x,x=nth l i:=⟨_,rfl⟩;obtain⟨y,hy⟩: ∃y,y=nth l j:=⟨_,rfl⟩;have hi':(i:Int)<(l.length:Int):=by omega
 have hj':(j:Int)<(l.length:Int):=by omega
 have HE:=Lib.hid hE;have HX:=Lib.hid hx;have HY:=Lib.hid hy;have hf:=fun k=>zf hE k
 rw[←hx]at c0 c1;rw[←hy]at d0 d1;clear hx hy hE;obtain⟨n,hn⟩: ∃n,n=l.length:=⟨_,rfl⟩;have HN:=Lib.hid hn;rw[←hn]at hi hj hi' hj'⊢;clear hn;go_enter Tryz.func154,Tryz.ntmps154;go_wp2
 go_region
 go_wp2
 go_end0
 refine⟨rfl, ?_,(((((Fr.refl _ _).setCell (by simp) _).setCell (by simp) _).setCell (by simp) _).setCell (by simp) _).drew⟩;have s1:=zg (zg HE.out (i*2) (.int .i64 y.b)) (i*2+1) (.int .i64 y.f);have s2:=zg (zg s1 (j*2) (.int .i64 x.b)) (j*2+1) (.int .i64 x.f);have hil:i<l.length:=by rw[←HN.out];exact hi
 have hjl:j<l.length:=by rw[←HN.out];exact hj
 have e1:=entCells_set l i y hil;have e2:=entCells_set (l.set i y) j x (by simpa using hjl);rw[e1,e2,HY.out,HX.out]at s2;have s3:=zL s2 ((Fr.refl [] _).drew) (by simp);unfold EnAt;rw[len_swapL,HN.out];rw[HX.out,HY.out];exact s3
theorem swap_eq(w:World)(hE:EnAt w B (.slice (some ⟨g,0,none⟩) l.length cap) l)(i:Nat)(hi:i<l.length):
 Calls Tryz.prog 154 #[.slice (some ⟨g,0,none⟩) l.length cap,.int .i64 (i:Int),.int .i64 (i:Int)] w fun e w'=>e=.returned (.tuple #[])∧EnAt w' B (.slice (some ⟨g,0,none⟩) l.length cap) (swapL l i i)∧Fr [g] w w':=by
 obtain⟨c0,c1⟩:=hE.cells hi;obtain⟨x,hx⟩: ∃x,x=nth l i:=⟨_,rfl⟩;have hi':(i:Int)<(l.length:Int):=by omega
 have HE:=Lib.hid hE;have HX:=Lib.hid hx;have hf:=fun k=>zf hE k
 rw[←hx]at c0 c1;clear hx hE;obtain⟨n,hn⟩: ∃n,n=l.length:=⟨_,rfl⟩;have HN:=Lib.hid hn;rw[←hn]at hi hi'⊢;clear hn;go_enter Tryz.func154,Tryz.ntmps154;go_wp2
 go_region
 go_wp2
 go_end0
 refine⟨rfl, ?_,(((((Fr.refl _ _).setCell (by simp) _).setCell (by simp) _).setCell (by simp) _).setCell (by simp) _).drew⟩;have s1:=zg (zg HE.out (i*2) (.int .i64 x.b)) (i*2+1) (.int .i64 x.f);have s2:=zg (zg s1 (i*2) (.int .i64 x.b)) (i*2+1) (.int .i64 x.f);have hil:i<l.length:=by rw[←HN.out];exact hi
 have e1:=entCells_set l i x hil;have e2:=entCells_set (l.set i x) i x (by simpa using hil);rw[e1,e2,HX.out]at s2;have s3:=zL s2 ((Fr.refl [] _).drew) (by simp);unfold EnAt;rw[len_swapL,HN.out];rw[HX.out];exact s3
theorem swap_c(w:World)(hE:EnAt w B (.slice (some ⟨g,0,none⟩) l.length cap) l)(i j:Nat)(hi:i<l.length)(hj:j<l.length):
 Calls Tryz.prog 154 #[.slice (some ⟨g,0,none⟩) l.length cap,.int .i64 (i:Int),.int .i64 (j:Int)] w fun e w'=>e=.returned (.tuple #[])∧EnAt w' B (.slice (some ⟨g,0,none⟩) l.length cap) (swapL l i j)∧Fr [g] w w':=by
 by_cases h:i=j
 ·subst h;exact swap_eq w hE i hi
 ·exact swap_ne w hE i j hi hj h
end Go.Proofs.YtghkahcogphomaaGreat
namespace Go.Proofs.YtghkahcogphomaaGreat
open Go.ChangeShapes Go.WideShapes Go.RowKit
variable{w:World}{B g cap pb:Nat}{l:List C2}{v:Value}{c:Array Value}{T:TypeId}
theorem info_entry:(Tryz.prog.info? 159).map (fun i=>(i.zero,i.size,i.bytes))=some (some (.agg #[.int .i64 0,.int .i64 0]),2,16):=by kernel_rfl
theorem assert_entry(w:World)(a b:Int):(Instr.typeAssert (.iface 159 (.agg #[.int .i64 a,.int .i64 b])) 20 159 true).run Tryz.prog w=.ok (.tuple #[.agg #[.int .i64 a,.int .i64 b],.bool true]) w:=by kernel_rfl
theorem far_blk{w w2 w1:World}{row:Option Nat}{pb:Nat}(hg:w2.grownBy w1 row)(hF:Fr [] w w2)(hl:pb<w.heap.size)(hne:row≠some pb):w1.heap[pb]? =w.heap[pb]? :=
 (hg.block pb (Nat.lt_of_lt_of_le hl hF.size) (fun h=>hne h.symm)).trans (hF.block pb hl (by simp))
theorem push_ne{o:Option Nat}{g H pb:Nat}(h:o=some g∨g=H)(hne:o≠some pb)(hl:pb<H):g≠pb:=by
 rcases h with h|h
 ·rintro rfl;exact hne h
 ·omega
def Pushed(w:World)(B pb:Nat)(c:Array Value)(T:TypeId)(v:Value)(l:List C2)(x:C2)(e:Ending)(w':World):Prop:=
 e=.returned (.tuple #[])∧∃g cap,EnAt w' B (.slice (some ⟨g,0,none⟩) (l.length+1) cap) (l++[x])∧blk w' pb=some (.cells (c.setIfInBounds 0 (.slice (some ⟨g,0,none⟩) (l.length+1) cap)) T (0,0))∧(v.ownBlock=some g∨w.heap.size≤g)∧g≠pb∧Fr (pb::v.ownBlock.toList) w w'
theorem pushed_mk{w w2 w1:World}{B g cap pb:Nat}{l:List C2}{v:Value}{c:Array Value}{T:TypeId}{x:C2}(HP:blk w pb=some (.cells c T (0,0)))(HF0:Fr [] w w2)
 (OW:w1.ownsRow B 159 2 (.slice (some ⟨g,0,none⟩) (l.length+1) cap) (l.length+1) (zi l++[.int .i64 x.b,.int .i64 x.f])) (GR:w2.grownBy w1 v.ownBlock) (AT:v.ownBlock=some g∨g=w2.heap.size) (Q0:w1.heap[pb]? =w.heap[pb]?) (hne:v.ownBlock≠some pb) (hpl:pb<w.heap.size):
 Pushed w B pb c T v l x (.returned (.tuple #[])) (w1.setCell ⟨pb,0,none⟩ (.slice (some ⟨g,0,none⟩) (l.length+1) cap)):=by
 have hs:=HF0.size;have hg:g≠pb:=push_ne AT hne (by omega);refine⟨rfl,g,cap, ?_, ?_, ?_,hg, ?_⟩
 ·have:=zL OW (show Fr [pb] _ (w1.setCell ⟨pb,0,none⟩ (.slice (some ⟨g,0,none⟩) (l.length+1) cap))from(Fr.refl _ _).setCell (by simp) _) (by simp[Value.ownBlock];exact hg);unfold EnAt;rw[show(l++[x]).length=l.length+1 by simp,show zi (l++[x])=zi l++[.int .i64 x.b,.int .i64 x.f] by simp[zi]];exact this
 ·rw[zD,if_pos rfl,show blk w1 pb=blk w pb from Q0,HP];rfl
 ·rcases AT with h|h
  ·exact .inl h
  ·right;omega
 ·refine Fr.setCell ?_ (by simp) _;exact(HF0.mono (by simp)).trans ((grown_fr GR).mono (T:=pb::v.ownBlock.toList) (by intro y hy;left;simp;right;simpa using hy)) (by intro y hy;exact .inl hy)
theorem epush_c(w:World)(hP:blk w pb=some (.cells c T (0,0)))(hc:c[0]? =some v)(hE:EnAt w B v l)(hne:v.ownBlock≠some pb)(hB:B≤w.heap.size)(hn:l.length≤1000000)(x:C2):
 Calls Tryz.prog 153 #[.pointer (some ⟨pb,0,none⟩),.iface 159 (.agg #[.int .i64 x.b,.int .i64 x.f])] w (Pushed w B pb c T v l x):=by
 obtain⟨i0,hi,hz0,hz1,hz2⟩:=info_parts info_entry;have hpc:=zA hP hc;have hpf:=zE hP (i:=0);have hpl:=zF hP;have HP:=Lib.hid hP;have HE:Hid (w.ownsRow B 159 2 v l.length (zi l)):=Lib.hid hE;have HI:=Lib.hid hi;have H0:=Lib.hid hz0;have H1:=Lib.hid hz1;have H2:=Lib.hid hz2;clear hP hE hc hi hz0 hz1 hz2;have TA:=fun w1=>assert_entry w1 x.b x.f
 go_enter Tryz.func153,Tryz.ntmps153;go_wp2;have HA:=zL (w':=((w.alloc (.cells #[.int .i64 x.b,.int .i64 x.f] 159)).alloc (.cells #[.int .i64 x.b,.int .i64 x.f] 159)).drew) HE.out ((((Fr.refl [] w).alloc _).alloc _).drew) (by simp);have HA:=Lib.hid HA
 have HN:((w.alloc (.cells #[.int .i64 x.b,.int .i64 x.f] 159)).alloc (.cells #[.int .i64 x.b,.int .i64 x.f] 159)).drew.heap[w.heap.size+1]? =some (.cells #[.int .i64 x.b,.int .i64 x.f] 159 (0,0)):=by
  have:=zB (w.alloc (.cells #[.int .i64 x.b,.int .i64 x.f] 159)) (.cells #[.int .i64 x.b,.int .i64 x.f] 159) (w.heap.size+1);rw[if_pos (by rw[zC])]at this;exact this
 have HN:=Lib.hid HN;have HF0:Hid (Fr [] w ((w.alloc (.cells #[.int .i64 x.b,.int .i64 x.f] 159)).alloc (.cells #[.int .i64 x.b,.int .i64 x.f] 159)).drew):=Lib.hid ((((Fr.refl [] w).alloc _).alloc _).drew)
 go_region_law (refine step_append_lies _ rfl (.tmp 15) (.tmp 17) 155 rfl B 159 i0 _ 2 16 Tryz.underlying155 HI.out H0.out H1.out H2.out rfl (by decide) v l.length (zi l) rfl HA.out ⟨w.heap.size+1,0,none⟩ 1 1 [.int .i64 x.b,.int .i64 x.f] rfl rfl (World.news_of_block HN.out) (by simp[Value.oneCell']) (by omega) (by unfold maxLen;omega) (by omega) (Nat.le_trans hB HF0.out.size) _ rfl ?_;intro g cap w1 hown1 hgrow1 hat hlt;have q0:=far_blk hgrow1 HF0.out hpl hne;have q1:w1.cell? ⟨pb,0,none⟩=some v:=(World.cell?_of_block (w:=w) (a:=⟨pb,0,none⟩) q0).trans hpc;have q2:w1.frozen? ⟨pb,0,none⟩=false:=(World.frozen?_of_block (w:=w) (a:=⟨pb,0,none⟩) q0).trans hpf;have OW:=Lib.hid hown1;have GR:=Lib.hid hgrow1;have AT:=Lib.hid hat;have Q0:=Lib.hid q0;clear hown1 hgrow1 hat q0)
 all_goals
  go_wp2
  go_end0
  exact pushed_mk HP.out HF0.out OW.out GR.out AT.out Q0.out hne hpl
theorem entCells_take(l:List C2)(k:Nat):(zi l).take (k*2)=zi (l.take k):=by
 induction l generalizing k with
 |nil=>simp[zi]
 |cons x l ih=>
  cases k with
  |zero=>simp[zi]
  |succ k=>
   have e:zi (x::l)=.int .i64 x.b:: .int .i64 x.f::zi l:=rfl;rw[e,show(k+1)*2=k*2+1+1 by omega];simp only[List.take_succ_cons,ih];rfl
theorem EnAt.take(h:EnAt w B (.slice (some ⟨g,0,none⟩) l.length cap) l)(k:Nat)(hk:k≤l.length):EnAt w B (.slice (some ⟨g,0,none⟩) k cap) (l.take k):=by
 have:=own_take h k hk;rw[entCells_take]at this;unfold EnAt
 rwa[show(l.take k).length=k by simp;omega]
def Popped(w:World)(B g cap pb:Nat)(c:Array Value)(T:TypeId)(l:List C2)(n:Nat)(e:Ending)(w':World):Prop:=
 e=.returned (.iface 159 (.agg #[.int .i64 (nth l n).b,.int .i64 (nth l n).f]))∧EnAt w' B (.slice (some ⟨g,0,none⟩) n cap) (l.take n)∧blk w' pb=some (.cells (c.setIfInBounds 0 (.slice (some ⟨g,0,none⟩) n cap)) T (0,0))∧Fr [pb] w w'
theorem epop_c(w:World)(n:Nat)(hl:l.length=n+1)(hP:blk w pb=some (.cells c T (0,0)))(hc:c[0]? =some (.slice (some ⟨g,0,none⟩) (n+1) cap))(hE:EnAt w B (.slice (some ⟨g,0,none⟩) (n+1) cap) l)(hne:g≠pb)(hn:n≤1000000):
 Calls Tryz.prog 152 #[.pointer (some ⟨pb,0,none⟩)] w (Popped w B g cap pb c T l n):=by
 rw[←hl]at hE;obtain⟨c0,c1⟩:=hE.cells (i:=n) (by omega);have hE2:=Lib.hid (hE.take n (by omega));have hcap:=(ZC hE).1;rw[hl]at hcap;have hcap':n≤cap:=by omega
 have hpc:=zA hP hc;have hpf:=zE hP (i:=0);have hpl:=zF hP;have HP:=Lib.hid hP;have hgl:=own_lt hE;obtain⟨x,hx⟩: ∃x,x=nth l n:=⟨_,rfl⟩;have D:Hid (∀w',EnAt w' B (.slice (some ⟨g,0,none⟩) n cap) (l.take n)→blk w' pb=some (.cells (c.setIfInBounds 0 (.slice (some ⟨g,0,none⟩) n cap)) T (0,0))→Fr [pb] w w'→Popped w B g cap pb c T l n (.returned (.iface 159 (.agg #[.int .i64 x.b,.int .i64 x.f]))) w'):=Lib.hid (fun w' h1 h2 h3=>⟨by rw[hx],h1,h2,h3⟩);rw[←hx]at c0 c1;clear hx hP hc hl hE;go_enter Tryz.func152,Tryz.ntmps152;go_wp2;go_ret;refine D.out _ ?_ ?_ ?_
 ·exact zL hE2.out (((Fr.refl [pb] w).setCell (by simp) _).alloc _) (by simp[Value.ownBlock];exact hne)
 ·rw[zB,if_neg (by simp;omega),zD,if_pos rfl,HP.out];rfl
 ·exact((Fr.refl [pb] w).setCell (by simp) _).alloc _
end Go.Proofs.YtghkahcogphomaaGreat
namespace Go.Proofs.YtghkahcogphomaaGreat
open Go.ChangeShapes Go.WideShapes Go.RowKit
variable{w:World}{B g cap pb:Nat}{l:List C2}{c:Array Value}{T:TypeId}
theorem ltE_iff(a b:C2):ltE a b=true↔b.f<a.f∨(a.f=b.f∧a.b<b.b):=by
 unfold ltE;by_cases h:a.f=b.f
 ·simp[h]
 ·simp[h]
theorem ltE_no(a b:C2):ltE a b=false↔¬(b.f<a.f∨(a.f=b.f∧a.b<b.b)):=by
 rw[←ltE_iff];simp
theorem ordE:Order ltE:=⟨fun a b c h1 h2=>by rw[ltE_no]at*;omega,fun a b h=>by rw[ltE_iff]at h;rw[ltE_no];omega⟩
theorem method_load(P:Program)(w:World)(b:Nat)(v:Value)(f:FuncId)(h:w.cell? ⟨b,0,none⟩=some v):((load ⟨b,0,none⟩:Sem Value)>>=fun v=>pure (f,v)).run P w=.ok (f,v) w:=by
 simp[h,go_sem]
theorem method_less'(w:World)(b:Nat):(method 304 153 (.pointer (some ⟨b,0,none⟩)) "Less").run Tryz.prog w=((load ⟨b,0,none⟩:Sem Value)>>=fun v=>pure (151,v)).run Tryz.prog w:=by kernel_rfl
theorem method_swap'(w:World)(b:Nat):(method 304 153 (.pointer (some ⟨b,0,none⟩)) "Swap").run Tryz.prog w=((load ⟨b,0,none⟩:Sem Value)>>=fun v=>pure (154,v)).run Tryz.prog w:=by kernel_rfl
theorem method_len'(w:World)(b:Nat):(method 304 153 (.pointer (some ⟨b,0,none⟩)) "Len").run Tryz.prog w=((load ⟨b,0,none⟩:Sem Value)>>=fun v=>pure (108,v)).run Tryz.prog w:=by kernel_rfl
theorem method_push(w:World)(b:Nat):(method 304 153 (.pointer (some ⟨b,0,none⟩)) "Push").run Tryz.prog w=.ok (153,.pointer (some ⟨b,0,none⟩)) w:=by kernel_rfl
theorem method_pop(w:World)(b:Nat):(method 304 153 (.pointer (some ⟨b,0,none⟩)) "Pop").run Tryz.prog w=.ok (152,.pointer (some ⟨b,0,none⟩)) w:=by kernel_rfl
structure HpAt(w:World)(B pb:Nat)(c:Array Value)(T:TypeId)(g cap:Nat)(l:List C2):Prop where
 p:blk w pb=some (.cells c T (0,0))
 c0:c[0]? =some (.slice (some ⟨g,0,none⟩) l.length cap)
 en:EnAt w B (.slice (some ⟨g,0,none⟩) l.length cap) l
 ne:g≠pb
theorem HpAt.cell(h:HpAt w B pb c T g cap l):w.cell? ⟨pb,0,none⟩=some (.slice (some ⟨g,0,none⟩) l.length cap):=zA h.p h.c0
theorem HpAt.less(h:HpAt w B pb c T g cap l):(method 304 153 (.pointer (some ⟨pb,0,none⟩)) "Less").run Tryz.prog w=.ok (151,.slice (some ⟨g,0,none⟩) l.length cap) w:=by
 rw[method_less',method_load _ _ _ _ _ h.cell]
theorem HpAt.swap(h:HpAt w B pb c T g cap l):(method 304 153 (.pointer (some ⟨pb,0,none⟩)) "Swap").run Tryz.prog w=.ok (154,.slice (some ⟨g,0,none⟩) l.length cap) w:=by
 rw[method_swap',method_load _ _ _ _ _ h.cell]
theorem HpAt.len(h:HpAt w B pb c T g cap l):(method 304 153 (.pointer (some ⟨pb,0,none⟩)) "Len").run Tryz.prog w=.ok (108,.slice (some ⟨g,0,none⟩) l.length cap) w:=by
 rw[method_len',method_load _ _ _ _ _ h.cell]
theorem HpAt.keep{w':World}(h:HpAt w B pb c T g cap l)(hF:Fr [] w w'):HpAt w' B pb c T g cap l:=
 ⟨hF.at h.p (by simp),h.c0,zL h.en hF (by simp),h.ne⟩
theorem HpAt.swapped{w':World}(h:HpAt w B pb c T g cap l)(i j:Nat)(hF:Fr [g] w w')(hE:EnAt w' B (.slice (some ⟨g,0,none⟩) l.length cap) (swapL l i j)):HpAt w' B pb c T g cap (swapL l i j):=
 ⟨hF.at h.p (by simpa using Ne.symm h.ne),by rw[len_swapL];exact h.c0,by rw[len_swapL];exact hE,h.ne⟩
theorem up_c(w:World)(n:Nat)(hl:l.length=n)(j:Nat)(hj:j<n)(h:HpAt w B pb c T g cap l)(hu:UpInv ltE (nth l) n j)(hn:n≤1000000):
 Calls Tryz.prog 120 #[.iface 153 (.pointer (some ⟨pb,0,none⟩)),.int .i64 (j:Int)] w fun e w'=>e=.returned (.tuple #[])∧∃l',l'.Perm l∧HeapF ltE (nth l') n∧HpAt w' B pb c T g cap l'∧Fr [g] w w':=by
 have H:=Lib.hid h;have U:=Lib.hid hu;have HL:=Lib.hid hl;clear h hu hl;go_enter Tryz.func120,Tryz.ntmps120;go_wp2;go_loopw [1] (fun x wr=> ∃(j:Nat) (l':List C2),j<n∧x=.int .i64 j∧Hid (l'.Perm l)∧Hid (UpInv ltE (nth l') n j)∧Hid (HpAt wr B pb c T g cap l')∧Fr [g] w wr) (fun x _=>(intOf x).toNat)
 case atStart=>exact⟨j,l,hj,rfl,Lib.hid (.refl _),U,H,Fr.refl _ _⟩
 case round=>
  obtain⟨j,l',hj,rfl,hP,hU,hH,hF⟩:=hrel;by_cases h0:j=0
  ·subst h0;go_wp2
   go_end0
   exact⟨rfl,l',hP.out,hU.out.exit (fun h=>by omega),hH.out,hF⟩
  ·have hll:l'.length=n:=hP.out.length_eq.trans HL.out;have hpar:((j:Int)-1)/2=((j-1)/2:Nat):=by omega
   have ML:=Lib.hid (hH.out.less);rw[hll]at ML;have LC:=Lib.hid (less_c wr hH.out.en j ((j-1)/2) (by omega) (by omega));rw[hll]at LC;have hne:(((j-1)/2:Nat):Int)≠(j:Int):=by omega
   obtain⟨i,hi⟩: ∃i,i=(j-1)/2:=⟨_,rfl⟩;have HI:=Lib.hid hi;rw[←hi]at hpar LC hne;have hij:i<j:=by omega
   have hb:((i:Int)==(j:Int))=false:=by simpa using hne
   clear hi hne;have MLo:=ML.out;cases hlt:ltE (nth l' j) (nth l' i)with
   |false=>
    rw[hlt]at LC;have HLT:=Lib.hid hlt;clear hlt;go_wp2_with fail;refine LC.out.mono ?_;rintro e w1 ⟨rfl,hF1⟩;clear MLo;go_wp2
    go_end0
    exact⟨rfl,l',hP.out,hU.out.exit (fun _=>by rw[←HI.out];exact HLT.out),hH.out.keep hF1,hF.trans hF1 (by simp)⟩
   |true=>
    rw[hlt]at LC;have HLT:=Lib.hid hlt;clear hlt;go_wp2_with fail;refine LC.out.mono ?_;rintro e w1 ⟨rfl,hF1⟩;clear MLo;have H1:=Lib.hid (hH.out.keep hF1);have MS:=H1.out.swap;rw[hll]at MS;have SC:=Lib.hid (swap_c w1 H1.out.en i j (by omega) (by omega));rw[hll]at SC;go_wp2_with fail;refine SC.out.mono ?_;rintro e w2 ⟨rfl,hE2,hF2⟩;clear MS;have H2:=Lib.hid (H1.out.swapped i j hF2 (by rw[hll];exact hE2));have P2:Hid ((swapL l' i j).Perm l):=Lib.hid ((swapL_perm l' i j (by omega) (by omega)).trans hP.out)
    have U2:Hid (UpInv ltE (nth (swapL l' i j)) n i):=Lib.hid (by
     have:=hU.out.step ordE (by omega) hj (by rw[←HI.out];exact HLT.out);rw[←HI.out]at this;exact this.congr (by omega) (fun k _=>nth_swapL l' i j k (by omega) (by omega)))
    have F2:Fr [g] w w2:=(hF.trans hF1 (by simp)).same hF2;clear hE2 hF2 hF1;go_wp2;go_roundw
    case rel=>exact⟨i,swapL l' i j,by omega,rfl,P2,U2,H2,F2⟩
    case measure=>simp[intOf];omega
def DownDone(w:World)(B pb:Nat)(c:Array Value)(T:TypeId)(g cap:Nat)(l:List C2)(n:Nat)(e:Ending)(w':World):Prop:=
 ∃r,e=.returned (.bool r)∧∃l',l'.Perm l∧HeapF ltE (nth l') n∧(∀k,n≤k→nth l' k=nth l k)∧HpAt w' B pb c T g cap l'∧Fr [g] w w'
set_option maxRecDepth 10000 in
set_option maxHeartbeats 1000000 in
theorem down_c(w:World)(n N:Nat)(hl:l.length=N)(hnN:n≤N)(h:HpAt w B pb c T g cap l)(hu:DnInv ltE (nth l) n 0)(hn:N≤1000000):
 Calls Tryz.prog 121 #[.iface 153 (.pointer (some ⟨pb,0,none⟩)),.int .i64 0,.int .i64 (n:Int)] w (DownDone w B pb c T g cap l n):=by
 have H:=Lib.hid h;have U:=Lib.hid hu;have HL:=Lib.hid hl;clear h hu hl;go_enter Tryz.func121,Tryz.ntmps121;go_wp2;go_loopw [7] (fun x wr=> ∃(i:Nat) (l':List C2),i≤N∧x=.int .i64 i∧Hid (l'.Perm l)∧Hid (DnInv ltE (nth l') n i)∧Hid (∀k,n≤k→nth l' k=nth l k)∧Hid (HpAt wr B pb c T g cap l')∧Fr [g] w wr) (fun x _=>N+1-(intOf x).toNat)
 case atStart=>exact⟨0,l,by omega,rfl,Lib.hid (.refl _),U,Lib.hid (fun _ _=>rfl),H,Fr.refl _ _⟩
 case round=>
  obtain⟨i,l',hiN,rfl,hP,hU,hK,hH,hF⟩:=hrel;have hll:l'.length=N:=hP.out.length_eq.trans HL.out;by_cases hA:n≤2*i+1
  ·go_wp2;go_ret;refine⟨_,rfl,l',hP.out,hU.out.exit (fun c h0 hc hp=>by omega),hK.out,hH.out,hF⟩
  by_cases hB:2*i+2<n
  ·have LC:=Lib.hid (less_c wr hH.out.en (2*i+1+1) (2*i+1) (by omega) (by omega));rw[hll]at LC;have ML:=hH.out.less;rw[hll]at ML;cases hb1:ltE (nth l' (2*i+1+1)) (nth l' (2*i+1))with
   |true=>
    rw[hb1]at LC
    have HM:Hid (∀c,0<c→c<n→(c-1)/2=i→ltE (nth l' c) (nth l' (2*i+1+1))=false):=Lib.hid (fun c h0 hc hp=>by
     have:c=2*i+1∨c=2*i+1+1:=by omega
     rcases this with rfl|rfl
     ·exact ordE.asym _ _ hb1
     ·exact ordE.rf _)
    clear hb1;go_wp2_with fail;refine LC.out.mono ?_;rintro e wA ⟨rfl,hF1⟩;clear ML;have HX:=Lib.hid (hH.out.keep hF1);have FX:Hid (Fr [g] w wA):=Lib.hid (hF.trans hF1 (by simp));clear hF1 LC;have hjs:(2*i+1+1)<N:=by omega
    have par:((2*i+1+1)-1)/2=i:=by omega
    have LC2:=Lib.hid (less_c wA HX.out.en (2*i+1+1) i (by omega) (by omega));rw[hll]at LC2;have ML2:=HX.out.less;rw[hll]at ML2;cases hb2:ltE (nth l' (2*i+1+1)) (nth l' i)with
    |false=>
     rw[hb2]at LC2;have HB2:=Lib.hid hb2;clear hb2;go_wp2_with fail;refine LC2.out.mono ?_;rintro e wB ⟨rfl,hF9⟩;clear ML2;go_wp2;go_ret;refine⟨_,rfl,l',hP.out,hU.out.exit ?_,hK.out,HX.out.keep hF9,FX.out.trans hF9 (by simp)⟩;intro c h0 hc hp;exact ordE.tr _ _ _ HB2.out (HM.out c h0 hc hp)
    |true=>
     rw[hb2]at LC2;have HB2:=Lib.hid hb2;clear hb2;go_wp2_with fail;refine LC2.out.mono ?_;rintro e wB ⟨rfl,hF9⟩;clear ML2;have HY:=Lib.hid (HX.out.keep hF9);have FY:Hid (Fr [g] w wB):=Lib.hid (FX.out.trans hF9 (by simp));have MS:=HY.out.swap;rw[hll]at MS;have SC:=Lib.hid (swap_c wB HY.out.en i (2*i+1+1) (by omega) (by omega));rw[hll]at SC;clear hF9;go_wp2_with fail;refine SC.out.mono ?_;rintro e wC ⟨rfl,hE2,hF8⟩;clear MS;have H2:=Lib.hid (HY.out.swapped i (2*i+1+1) hF8 (by rw[hll];exact hE2));have P2:Hid ((swapL l' i (2*i+1+1)).Perm l):=Lib.hid ((swapL_perm l' i (2*i+1+1) (by omega) (by omega)).trans hP.out);have U2:Hid (DnInv ltE (nth (swapL l' i (2*i+1+1))) n (2*i+1+1)):=Lib.hid ((hU.out.step ordE par (by omega) (by omega) HB2.out HM.out).congr (fun k _=>nth_swapL l' i (2*i+1+1) k (by omega) (by omega)))
     have K2:Hid (∀k,n≤k→nth (swapL l' i (2*i+1+1)) k=nth l k):=Lib.hid (fun k hk=>by
      rw[nth_swapL l' i (2*i+1+1) k (by omega) (by omega)];unfold swapF;rw[if_neg (by omega),if_neg (by omega)];exact hK.out k hk)
     have F2:Fr [g] w wC:=FY.out.same hF8;clear hE2 hF8;go_wp2;go_roundw
     case rel=>exact⟨(2*i+1+1),swapL l' i (2*i+1+1),by omega,by go_num,P2,U2,K2,H2,F2⟩
     case measure=>simp[intOf];omega
   |false=>
    rw[hb1]at LC
    have HM:Hid (∀c,0<c→c<n→(c-1)/2=i→ltE (nth l' c) (nth l' (2*i+1))=false):=Lib.hid (fun c h0 hc hp=>by
     have:c=2*i+1∨c=2*i+1+1:=by omega
     rcases this with rfl|rfl
     ·exact ordE.rf _
     ·exact hb1)
    clear hb1;go_wp2_with fail;refine LC.out.mono ?_;rintro e wA ⟨rfl,hF1⟩;clear ML;have HX:=Lib.hid (hH.out.keep hF1);have FX:Hid (Fr [g] w wA):=Lib.hid (hF.trans hF1 (by simp));clear hF1 LC;have hjs:(2*i+1)<N:=by omega
    have par:((2*i+1)-1)/2=i:=by omega
    have LC2:=Lib.hid (less_c wA HX.out.en (2*i+1) i (by omega) (by omega));rw[hll]at LC2;have ML2:=HX.out.less;rw[hll]at ML2;cases hb2:ltE (nth l' (2*i+1)) (nth l' i)with
    |false=>
     rw[hb2]at LC2;have HB2:=Lib.hid hb2;clear hb2;go_wp2_with fail;refine LC2.out.mono ?_;rintro e wB ⟨rfl,hF9⟩;clear ML2;go_wp2;go_ret;refine⟨_,rfl,l',hP.out,hU.out.exit ?_,hK.out,HX.out.keep hF9,FX.out.trans hF9 (by simp)⟩;intro c h0 hc hp;exact ordE.tr _ _ _ HB2.out (HM.out c h0 hc hp)
    |true=>
     rw[hb2]at LC2;have HB2:=Lib.hid hb2;clear hb2;go_wp2_with fail;refine LC2.out.mono ?_;rintro e wB ⟨rfl,hF9⟩;clear ML2;have HY:=Lib.hid (HX.out.keep hF9);have FY:Hid (Fr [g] w wB):=Lib.hid (FX.out.trans hF9 (by simp));have MS:=HY.out.swap;rw[hll]at MS;have SC:=Lib.hid (swap_c wB HY.out.en i (2*i+1) (by omega) (by omega));rw[hll]at SC;clear hF9;go_wp2_with fail;refine SC.out.mono ?_;rintro e wC ⟨rfl,hE2,hF8⟩;clear MS;have H2:=Lib.hid (HY.out.swapped i (2*i+1) hF8 (by rw[hll];exact hE2));have P2:Hid ((swapL l' i (2*i+1)).Perm l):=Lib.hid ((swapL_perm l' i (2*i+1) (by omega) (by omega)).trans hP.out);have U2:Hid (DnInv ltE (nth (swapL l' i (2*i+1))) n (2*i+1)):=Lib.hid ((hU.out.step ordE par (by omega) (by omega) HB2.out HM.out).congr (fun k _=>nth_swapL l' i (2*i+1) k (by omega) (by omega)))
     have K2:Hid (∀k,n≤k→nth (swapL l' i (2*i+1)) k=nth l k):=Lib.hid (fun k hk=>by
      rw[nth_swapL l' i (2*i+1) k (by omega) (by omega)];unfold swapF;rw[if_neg (by omega),if_neg (by omega)];exact hK.out k hk)
     have F2:Fr [g] w wC:=FY.out.same hF8;clear hE2 hF8;go_wp2;go_roundw
     case rel=>exact⟨(2*i+1),swapL l' i (2*i+1),by omega,by go_num,P2,U2,K2,H2,F2⟩
     case measure=>simp[intOf];omega
  ·have HM:Hid (∀c,0<c→c<n→(c-1)/2=i→ltE (nth l' c) (nth l' (2*i+1))=false):=Lib.hid (fun c h0 hc hp=>by
    have:c=2*i+1:=by omega
    subst this;exact ordE.rf _)
   have HX:=hH;have FX:Hid (Fr [g] w wr):=Lib.hid hF;have hjs:(2*i+1)<N:=by omega
   have par:((2*i+1)-1)/2=i:=by omega
   have LC2:=Lib.hid (less_c wr HX.out.en (2*i+1) i (by omega) (by omega));rw[hll]at LC2;have ML2:=HX.out.less;rw[hll]at ML2;cases hb2:ltE (nth l' (2*i+1)) (nth l' i)with
   |false=>
    rw[hb2]at LC2;have HB2:=Lib.hid hb2;clear hb2;go_wp2_with fail;refine LC2.out.mono ?_;rintro e wB ⟨rfl,hF9⟩;clear ML2;go_wp2;go_ret;refine⟨_,rfl,l',hP.out,hU.out.exit ?_,hK.out,HX.out.keep hF9,FX.out.trans hF9 (by simp)⟩;intro c h0 hc hp;exact ordE.tr _ _ _ HB2.out (HM.out c h0 hc hp)
   |true=>
    rw[hb2]at LC2;have HB2:=Lib.hid hb2;clear hb2;go_wp2_with fail;refine LC2.out.mono ?_;rintro e wB ⟨rfl,hF9⟩;clear ML2;have HY:=Lib.hid (HX.out.keep hF9);have FY:Hid (Fr [g] w wB):=Lib.hid (FX.out.trans hF9 (by simp));have MS:=HY.out.swap;rw[hll]at MS;have SC:=Lib.hid (swap_c wB HY.out.en i (2*i+1) (by omega) (by omega));rw[hll]at SC;clear hF9;go_wp2_with fail;refine SC.out.mono ?_;rintro e wC ⟨rfl,hE2,hF8⟩;clear MS;have H2:=Lib.hid (HY.out.swapped i (2*i+1) hF8 (by rw[hll];exact hE2));have P2:Hid ((swapL l' i (2*i+1)).Perm l):=Lib.hid ((swapL_perm l' i (2*i+1) (by omega) (by omega)).trans hP.out);have U2:Hid (DnInv ltE (nth (swapL l' i (2*i+1))) n (2*i+1)):=Lib.hid ((hU.out.step ordE par (by omega) (by omega) HB2.out HM.out).congr (fun k _=>nth_swapL l' i (2*i+1) k (by omega) (by omega)))
    have K2:Hid (∀k,n≤k→nth (swapL l' i (2*i+1)) k=nth l k):=Lib.hid (fun k hk=>by
     rw[nth_swapL l' i (2*i+1) k (by omega) (by omega)];unfold swapF;rw[if_neg (by omega),if_neg (by omega)];exact hK.out k hk)
    have F2:Fr [g] w wC:=FY.out.same hF8;clear hE2 hF8;go_wp2;go_roundw
    case rel=>exact⟨(2*i+1),swapL l' i (2*i+1),by omega,by go_num,P2,U2,K2,H2,F2⟩
    case measure=>simp[intOf];omega
end Go.Proofs.YtghkahcogphomaaGreat
namespace Go.Proofs.YtghkahcogphomaaGreat
open Go.ChangeShapes Go.WideShapes Go.RowKit
variable{w:World}{B g cap pb:Nat}{l:List C2}{v:Value}{c:Array Value}{T:TypeId}
def PushDone(w:World)(B pb:Nat)(c:Array Value)(T:TypeId)(v:Value)(l:List C2)(x:C2)(e:Ending)(w':World):Prop:=
 e=.returned (.tuple #[])∧∃g cap l',l'.Perm (x::l)∧HeapF ltE (nth l') (l.length+1)∧HpAt w' B pb (c.setIfInBounds 0 (.slice (some ⟨g,0,none⟩) (l.length+1) cap)) T g cap l'∧(v.ownBlock=some g∨w.heap.size≤g)∧Fr (pb::v.ownBlock.toList) w w'
theorem nth_append_left(l:List C2)(x:C2)(i:Nat)(h:i<l.length):nth (l++[x]) i=nth l i:=by
 simp[nth,List.getElem?_append_left h]
theorem hpush_c(w:World)(hP:blk w pb=some (.cells c T (0,0)))(hc:c[0]? =some v)(hE:EnAt w B v l)(hne:v.ownBlock≠some pb)(hB:B≤w.heap.size)(hn:l.length≤999999)(hh:HeapF ltE (nth l) l.length)(x:C2):
 Calls Tryz.prog 107 #[.iface 153 (.pointer (some ⟨pb,0,none⟩)),.iface 159 (.agg #[.int .i64 x.b,.int .i64 x.f])] w (PushDone w B pb c T v l x):=by
 have CP:=Lib.hid (epush_c w hP hc hE hne hB (by omega) x);have HH:=Lib.hid hh
 have h0:0<c.size:=by
  rcases Nat.lt_or_ge 0 c.size with h|h
  ·exact h
  ·rw[Array.getElem?_eq_none h]at hc;simp at hc
 have MP:=method_push w pb;clear hP hc hE hB hh hne;go_enter Tryz.func107,Tryz.ntmps107;go_wp2_with fail;refine CP.out.mono ?_;rintro e w1 ⟨rfl,g,cap,hE1,hP1,hat,hne1,hF1⟩;clear MP;have hlen:(l++[x]).length=l.length+1:=by simp
 have HP1:Hid (HpAt w1 B pb (c.setIfInBounds 0 (.slice (some ⟨g,0,none⟩) (l.length+1) cap)) T g cap (l++[x])):=Lib.hid ⟨hP1,by rw[hlen];simp[h0],by rw[hlen];exact hE1,hne1⟩;have ML:=HP1.out.len;rw[hlen]at ML;have AT:=Lib.hid hat;have HL:=Lib.hid hlen;have F1:=Lib.hid hF1;clear hE1 hP1 hat hlen hF1 hne1;obtain⟨N,hN⟩: ∃N,N=l.length:=⟨_,rfl⟩;have HN:=Lib.hid hN;rw[←hN]at ML hn;clear hN;go_wp2_with fail;refine(len_c _ _ _ _).mono ?_;rintro e w' ⟨rfl,rfl⟩;clear ML;go_wp2_with fail
 have hup:UpInv ltE (nth (l++[x])) (N+1) N:=by
  rw[HN.out];exact(HH.out.congr (fun i hi=>nth_append_left l x i hi)).up
 refine(up_c w1 (N+1) (by rw[HL.out,HN.out]) N (by omega) HP1.out hup (by omega)).mono ?_;rintro e w2 ⟨rfl,l',hp,hheap,hat2,hF2⟩;go_wp2
 go_end0
 refine⟨rfl,g,cap,l',hp.trans (List.perm_append_comm (l₁:=l) (l₂:=[x])),by rw[←HN.out];exact hheap,hat2,AT.out,F1.out.trans hF2 ?_⟩;intro y hy;have:y=g:=by simpa using hy
 subst this;rcases AT.out with h|h
 ·left;rw[h];simp
 ·exact .inr h
def PopDone(w:World)(B g cap pb:Nat)(c:Array Value)(T:TypeId)(l:List C2)(n:Nat)(e:Ending)(w':World):Prop:=
 e=.returned (.iface 159 (.agg #[.int .i64 (nth l 0).b,.int .i64 (nth l 0).f]))∧∃l',l.Perm (nth l 0::l')∧HeapF ltE (nth l') n∧HpAt w' B pb (c.setIfInBounds 0 (.slice (some ⟨g,0,none⟩) n cap)) T g cap l'∧Fr [pb,g] w w'
theorem take_snoc(l:List C2)(n:Nat)(h:l.length=n+1):l=l.take n++[nth l n]:=by
 have:=List.take_append_drop n l
 have h2:l.drop n=[nth l n]:=by
  rw[List.drop_eq_getElem_cons (by omega)];simp[nth,List.drop_of_length_le,h]
 rw[h2]at this;exact this.symm
theorem nth_take(l:List C2)(n i:Nat)(h:i<n):nth (l.take n) i=nth l i:=by
 simp[nth,h]
theorem hpop_c(w:World)(n:Nat)(hl:l.length=n+1)(h:HpAt w B pb c T g cap l)(hh:HeapF ltE (nth l) (n+1))(hn:n≤999999):
 Calls Tryz.prog 109 #[.iface 153 (.pointer (some ⟨pb,0,none⟩))] w (PopDone w B g cap pb c T l n):=by
 have H:=Lib.hid h;have HH:=Lib.hid hh;have HL:=Lib.hid hl;have ML:=h.len;have MS:=h.swap;rw[hl]at ML MS;have SC:=Lib.hid (swap_c w h.en 0 n (by omega) (by omega));rw[hl]at SC;clear h hh hl;go_enter Tryz.func109,Tryz.ntmps109;go_wp2_with fail;refine(len_c _ _ _ _).mono ?_;rintro e w' ⟨rfl,rfl⟩;clear ML;go_wp2_with fail;refine SC.out.mono ?_;rintro e w1 ⟨rfl,hE1,hF1⟩;clear MS;have H1:=Lib.hid (H.out.swapped 0 n hF1 (by rw[HL.out];exact hE1));have hls:Hid ((swapL l 0 n).length=n+1):=Lib.hid (by rw[len_swapL,HL.out]);have hdn:DnInv ltE (nth (swapL l 0 n)) n 0:=HH.out.down.congr (fun i _=>nth_swapL l 0 n i (by rw[HL.out];omega) (by rw[HL.out];omega));have CD:=Lib.hid (down_c w1 n (n+1) hls.out (by omega) H1.out hdn (by omega));have F1:=Lib.hid hF1;clear hdn hE1 hF1;go_wp2_with fail;refine CD.out.mono ?_;rintro e w2 ⟨r,rfl,l',hp,hheap,hkeep,hat,hF2⟩;have hll:l'.length=n+1:=hp.length_eq.trans hls.out;have CP:=epop_c w2 n hll hat.p (by rw[←hll];exact hat.c0) (by rw[←hll];exact hat.en) hat.ne (by omega);have MP:=method_pop w2 pb
 have hlast:Hid (nth l' n=nth l 0):=Lib.hid (by
  rw[hkeep n (Nat.le_refl _),nth_swapL l 0 n n (by rw[HL.out];omega) (by rw[HL.out];omega)];unfold swapF;by_cases h0:n=0
  ·rw[if_pos h0,h0]
  ·rw[if_neg h0,if_pos rfl])
 have hc0:=Lib.hid hat.c0;have HLL:=Lib.hid hll;have HP:=Lib.hid (hp.trans (swapL_perm l 0 n (by rw[HL.out];omega) (by rw[HL.out];omega)));have HHp:=Lib.hid hheap;have hne:=Lib.hid hat.ne;have F2:=Lib.hid (F1.out.same hF2);have CP:=Lib.hid CP;clear hp hheap hkeep hat hF2 hll F1 SC CD;go_wp2_with fail;refine CP.out.mono ?_;rintro e w3 ⟨rfl,hC2,hP3,hF3⟩;have hlt:(l'.take n).length=n:=by simp[HLL.out]
 have D:Hid (PopDone w B g cap pb c T l n (.returned (.iface 159 (.agg #[.int .i64 (nth l' n).b,.int .i64 (nth l' n).f]))) w3):=Lib.hid (by
  have h0:0<c.size:=by
   have:=hc0.out;rcases Nat.lt_or_ge 0 c.size with h|h
   ·exact h
   ·rw[Array.getElem?_eq_none h]at this;simp at this
  refine⟨by rw[hlast.out],l'.take n, ?_,HHp.out.congr (fun i hi=>nth_take l' n i hi),⟨hP3,by rw[hlt];simp[h0],by rw[hlt];exact hC2,hne.out⟩, ?_⟩
  ·have e1:=take_snoc l' n HLL.out;rw[hlast.out]at e1;exact(HP.out.symm.trans (List.Perm.of_eq e1)).trans (List.perm_append_comm (l₁:=(l'.take n)) (l₂:=[nth l 0]))
  ·exact(F2.out.mono (by simp)).trans hF3 (by simp))
 clear MP CP hC2 hP3 hF3 hlt;go_wp2;go_ret;exact D.out
end Go.Proofs.YtghkahcogphomaaGreat
namespace Go.Proofs.YtghkahcogphomaaGreat
open Go.ChangeShapes Go.WideShapes Go.RowKit Go.Maps
variable{w w':World}{mb n:Nat}{cl:Int→Int}
theorem lawMap:Keyed Tryz.prog 3:=int_keyed Tryz.underlying3
theorem zeroMap(w:World):(zeroValue 3).run Tryz.prog w=.ok (.int .i64 0) w:=by kernel_rfl
def ClAt(w:World)(mb n:Nat)(cl:Int→Int):Prop:= ∃D:DataW Unit,w.ownsMap Tryz.prog 3 (plainElem Tryz.prog 3) mb n D∧∀b:Int,(Lit.int .i64 b).wf=true→D.atKey (.int .i64 b) (.lit (.int .i64 0))=.lit (.int .i64 (cl b))
theorem ClAt.look(h:ClAt w mb n cl)(b:Int)(hb:(Lit.int .i64 b).wf=true):(Instr.lookup 131 (.map (some mb)) (.int .i64 b) false).run Tryz.prog w=.ok (.int .i64 (cl b)) w:=by
 obtain⟨D,h1,h2⟩:=h;obtain⟨c,hr,hc,_⟩:=h1.lookup_int lawMap Tryz.underlying131 Tryz.underlying3 (zeroMap w) (keyOf_int_mk Tryz.underlying3 hb);rw[h2 b hb]at hc;simp at hc;rw[hr,hc]
theorem ClAt.of{D:DataW Unit}(h:w.ownsMap Tryz.prog 3 (plainElem Tryz.prog 3) mb n D): ∃cl,ClAt w mb n cl:=by
 have: ∀b:Int,∃c:Int,(Lit.int .i64 b).wf=true→D.atKey (.int .i64 b) (.lit (.int .i64 0))=.lit (.int .i64 c):=by
  intro b;by_cases hb:(Lit.int .i64 b).wf=true
  ·obtain⟨c,_,hc,_⟩:=h.lookup_int lawMap Tryz.underlying131 Tryz.underlying3 (zeroMap w) (keyOf_int_mk Tryz.underlying3 hb);exact⟨c,fun _=>hc⟩
  ·exact⟨0,fun h=>absurd h hb⟩
 exact⟨fun b=>Classical.choose (this b),D,h,fun b hb=>Classical.choose_spec (this b) hb⟩
theorem ClAt.made(w:World):ClAt (w.alloc (.map #[] 0)) w.heap.size 0 fun _=>0:=⟨.map [],World.ownsMap_made _ _ _ _,fun _ _=>rfl⟩
theorem ClAt.fr{S:List Nat}(h:ClAt w mb n cl)(hF:Fr S w w')(hS:mb∉S):ClAt w' mb n cl:=by
 obtain⟨D,⟨es,clock,hb,r⟩,h2⟩:=h;refine⟨D,⟨es,clock, ?_,r⟩,h2⟩
 have hl:mb<w.heap.size:=by
  rcases Nat.lt_or_ge mb w.heap.size with h|h
  ·exact h
  ·rw[Array.getElem?_eq_none h]at hb;cases hb
 exact(hF.block mb hl hS).trans hb
end Go.Proofs.YtghkahcogphomaaGreat
end
