/- Fibers: a part of the walk. No condition. -/
import Derived.Test.YtghkahcogphomaaGreatQk16
set_option linter.all false
namespace Go.Proofs.YtghkahcogphomaaGreat
section
open Go.ChangeShapes Go.WideShapes Go.RowKit
def zI(l:List Bool):Array Value:=(l.map Value.bool).toArray
def zS(n:Nat):List Bool:=List.replicate n false
theorem len_falses(n:Nat):(zS n).length=n:=by simp[zS]
theorem info_bool:(Tryz.prog.info? 4).map (fun i=>(i.zero,i.size,i.bytes))=some (some (.bool false),1,1):=by kernel_rfl
theorem made_bools(n:Nat):madeCells #[.bool false] n=zI (zS n):=by
 apply Array.ext_getElem?;intro i;by_cases hi:i<n<;>simp[madeCells,zI,zS,hi,Nat.mod_one]
theorem run_bools(w:World)(n:Nat)(h:n≤16777216):
 (Instr.makeSlice 132 (.int .i64 (n:Int)) (.int .i64 (n:Int))).run Tryz.prog w=.ok (.slice (some ⟨w.heap.size,0,none⟩) n n) (w.alloc (.cells (zI (zS n)) 4)):=by
 obtain⟨i0,hi,hz0,hz1,hz2⟩:=info_parts info_bool;have:=run_make (P:=Tryz.prog) w 132 4 i0 (.bool false) Tryz.underlying132 hi hz0 .i64 .i64 (n:Int) n (by omega) (by omega) (by rw[hz2];omega) (by omega);rw[this,hz1];simp only[Int.toNat_natCast,Nat.mul_one];rw[show(Value.bool false).cells= #[.bool false]from rfl,made_bools]
def BoolsAt(w:World)(b:Nat)(l:List Bool):Prop:=blk w b=some (.cells (zI l) 4 (0,0))
theorem BoolsAt.new{w:World}(l:List Bool):BoolsAt (w.alloc (.cells (zI l) 4)) w.heap.size l:=by
 unfold BoolsAt;rw[zB,if_pos rfl]
end
section
open Go.ChangeShapes Go.WideShapes Go.RowKit Go.Maps
variable{w w':World}{c:Tk}{m n:Nat}{cl:Int→Int}{wv:Value}{T:Tr}
def followL(cl:Int→Int)(m:Nat):Tr→List Int→Tr×List Int
 |T,[]=>(T,[])
 |T,x::l=>((followL cl m (zT cl m T x).1 l).1,(zT cl m T x).2::(followL cl m (zT cl m T x).1 l).2)
def BdL(cl:Int→Int)(m:Nat):Tr→List Int→Prop
 |_,[]=>True
 |T,x::l=>T.Bd∧(0≤x∧x<18446744073709551616)∧BdL cl m (zT cl m T x).1 l
def followR(cl:Int→Int)(m:Nat):Tr→List (List Int)→Tr×List (List Int)
 |T,[]=>(T,[])
 |T,l::r=>((followR cl m (followL cl m T l).1 r).1,(followL cl m T l).2::(followR cl m (followL cl m T l).1 r).2)
def BdR(cl:Int→Int)(m:Nat):Tr→List (List Int)→Prop
 |_,[]=>True
 |T,l::r=>BdL cl m T l∧BdR cl m (followL cl m T l).1 r
inductive Drains(cl:Int→Int)(m:Nat):Nat→Tr→Tr→Prop
 |done (T:Tr):T.work=[]→Drains cl m 0 T T
 |step (k:Nat) (T:Tr) (x:Int) (ws:List Int) (T':Tr):T.work=ws++[x]→T.work.length<2000000→(∀q:Nat,(q:Int)<countedF T.A m x→(scanN cl m x { T with work:=ws } q).Bd)→
   Drains cl m k (scanT cl m x { T with work:=ws }) T'→Drains cl m (k+1) T T'
def startT(A:Ar)(m:Nat)(least:Int):Tr:=⟨A,zS (m*256),[],least,0,0,0⟩
structure Runs(cl:Int→Int)(m:Nat)(T:Tr)(ls:List (List Int))(T':Tr)(ls':List (List Int)):Prop where
 bd:BdR cl m T ls
 eq:ls'=(followR cl m T ls).2
 dr: ∃k,Drains cl m k (followR cl m T ls).1 T'
theorem len_followL(cl:Int→Int)(m:Nat)(T:Tr)(l:List Int):(followL cl m T l).2.length=l.length:=by
 induction l generalizing T with
 |nil=>rfl
 |cons x l ih=>simp[followL,ih]
theorem len_followR(cl:Int→Int)(m:Nat)(T:Tr)(l:List (List Int)):(followR cl m T l).2.length=l.length:=by
 induction l generalizing T with
 |nil=>rfl
 |cons x l ih=>simp[followR,ih]
theorem followL_take(cl:Int→Int)(m:Nat)(T:Tr)(l:List Int)(i:Nat)(h:i<l.length):
 followL cl m T (l.take (i+1))=((zT cl m (followL cl m T (l.take i)).1 (l[i]?.getD 0)).1,(followL cl m T (l.take i)).2++[(zT cl m (followL cl m T (l.take i)).1 (l[i]?.getD 0)).2]):=by
 induction l generalizing T i with
 |nil=>simp at h
 |cons x l ih=>
  cases i with
  |zero=>simp[followL]
  |succ i=>
   simp only[List.take_succ_cons,followL];rw[ih _ i (by simpa using h)]
   simp
theorem followR_take(cl:Int→Int)(m:Nat)(T:Tr)(l:List (List Int))(i:Nat)(h:i<l.length):
 followR cl m T (l.take (i+1))=((followL cl m (followR cl m T (l.take i)).1 (l[i]?.getD [])).1,(followR cl m T (l.take i)).2++[(followL cl m (followR cl m T (l.take i)).1 (l[i]?.getD [])).2]):=by
 induction l generalizing T i with
 |nil=>simp at h
 |cons x l ih=>
  cases i with
  |zero=>simp[followR]
  |succ i=>
   simp only[List.take_succ_cons,followR];rw[ih _ i (by simpa using h)]
   simp
theorem BdL.at{l:List Int}(h:BdL cl m T l)(i:Nat)(hi:i<l.length):(followL cl m T (l.take i)).1.Bd∧0≤l[i]?.getD 0∧l[i]?.getD 0<18446744073709551616:=by
 induction l generalizing T i with
 |nil=>simp at hi
 |cons x l ih=>
  cases i with
  |zero=>exact⟨h.1,by simpa using h.2.1⟩
  |succ i=>have:=ih h.2.2 i (by simpa using hi);simpa[followL]using this
theorem BdR.at{l:List (List Int)}(h:BdR cl m T l)(i:Nat)(hi:i<l.length):BdL cl m (followR cl m T (l.take i)).1 (l[i]?.getD []):=by
 induction l generalizing T i with
 |nil=>simp at hi
 |cons x l ih=>
  cases i with
  |zero=>simpa[followR]using h.1
  |succ i=>have:=ih h.2 i (by simpa using hi);simpa[followR]using this
structure Rw where
 g:Nat
 s:Nat
 o:Nat
 cap:Nat
 va:Option Addr
 l:List Int
def Rw.v(r:Rw):Value:=.slice r.va r.l.length r.cap
def RowIn(w:World)(r:Rw)(l:List Int):Prop:=
 l.length=r.l.length∧(r.l=[]∨r.va=some ⟨r.g,r.o,none⟩∧∃arr,blk w r.g=some (.cells arr 28 (0,0))∧arr.size=r.s∧∀j,j<l.length→arr[r.o+j]? =some (.int .u64 (l[j]?.getD 0)))
def RowsIn(w:World)(rs:List Rw)(ls:List (List Int)):Prop:=ls.length=rs.length∧∀(i:Nat) (r:Rw) (l:List Int),rs[i]? =some r→ls[i]? =some l→RowIn w r l
def RowsAp(rs:List Rw):Prop:= ∀(i j:Nat) (r s:Rw),i≠j→rs[i]? =some r→rs[j]? =some s→r.l=[]∨s.l=[]∨r.g≠s.g∨r.o+r.l.length≤s.o∨s.o+s.l.length≤r.o
theorem RowIn.keep{r:Rw}{l:List Int}(h:RowIn w r l)(hb: ∀o,blk w r.g=some o→blk w' r.g=some o):RowIn w' r l:=by
 refine⟨h.1, ?_⟩;rcases h.2 with h|⟨h1,arr,h2,h3⟩
 ·exact .inl h
 ·exact .inr ⟨h1,arr,hb _ h2,h3⟩
theorem RowsIn.keep{rs:List Rw}{ls:List (List Int)}(h:RowsIn w rs ls)(hb: ∀r,r∈rs→∀o,blk w r.g=some o→blk w' r.g=some o):RowsIn w' rs ls:=
 ⟨h.1,fun i r l hr hl=>(h.2 i r l hr hl).keep (hb r (List.mem_of_getElem? hr))⟩
theorem RowIn.cell{r:Rw}{l:List Int}(h:RowIn w r l){j:Nat}(hj:j<r.l.length):r.va=some ⟨r.g,r.o,none⟩∧w.cell? ⟨r.g,r.o+j,none⟩=some (.int .u64 (l[j]?.getD 0))∧w.frozen? ⟨r.g,r.o+j,none⟩=false:=by
 obtain⟨hl,h⟩:=h;rcases h with h|⟨h1,arr,h2,_,h3⟩
 ·rw[h]at hj;simp at hj
 ·exact⟨h1,zA h2 (h3 j (by omega)),zE h2⟩
theorem RowsIn.store{rs:List Rw}{ls:List (List Int)}(h:RowsIn w rs ls)(ap:RowsAp rs){i:Nat}{r:Rw}{l:List Int}(hr:rs[i]? =some r)(hl:ls[i]? =some l){j:Nat}(hj:j<r.l.length)(y:Int):
 RowsIn (w.setCell ⟨r.g,r.o+j,none⟩ (.int .u64 y)) rs (ls.set i (l.set j y)):=by
 refine⟨by simpa using h.1, ?_⟩;intro i2 r2 l2 hr2 hl2;by_cases hi:i2=i
 ·subst hi;rw[hr]at hr2;injection hr2 with hr2
  subst hr2
  have hil:i2<ls.length:=by
   rcases Nat.lt_or_ge i2 ls.length with h|h
   ·exact h
   ·rw[List.getElem?_eq_none h]at hl;cases hl
  rw[List.getElem?_set_self hil]at hl2;injection hl2 with hl2
  subst hl2;obtain⟨e,h2⟩:=h.2 i2 r l hr hl;refine⟨by simpa using e, ?_⟩;rcases h2 with h2|⟨h1,arr,h2,h3,h4⟩
  ·rw[h2]at hj;simp at hj
  ·refine .inr ⟨h1,arr.setIfInBounds (r.o+j) (.int .u64 y),by rw[zD,if_pos rfl,h2];rfl,by simpa using h3, ?_⟩;intro q hq;simp only[List.length_set]at hq;have h5:=h4 q hq;by_cases hqj:q=j
   ·subst hqj
    have:r.o+q<arr.size:=by
     rcases Nat.lt_or_ge (r.o+q) arr.size with h|h
     ·exact h
     ·rw[Array.getElem?_eq_none h]at h5;cases h5
    rw[Array.getElem?_setIfInBounds_self_of_lt this,List.getElem?_set_self hq];rfl
   ·rw[Array.getElem?_setIfInBounds_ne (by omega),List.getElem?_set_ne (by omega)];exact h5
 ·rw[List.getElem?_set_ne (by omega)]at hl2;obtain⟨e,h2⟩:=h.2 i2 r2 l2 hr2 hl2;refine⟨e, ?_⟩;rcases h2 with h2|⟨h1,arr,h2,h3,h4⟩
  ·exact .inl h2
  ·right;refine⟨h1, ?_⟩;by_cases hg:r2.g=r.g
   ·refine⟨arr.setIfInBounds (r.o+j) (.int .u64 y),by rw[zD,if_pos hg,h2];rfl,by simpa using h3, ?_⟩;intro q hq;have:=ap i2 i r2 r hi hr2 hr
    have hne:r.o+j≠r2.o+q:=by
     rcases this with h|h|h|h|h
     ·rw[h]at e;simp at e;rw[e]at hq;simp at hq
     ·rw[h]at hj;simp at hj
     ·exact absurd hg h
     ·omega
     ·omega
    rw[Array.getElem?_setIfInBounds_ne hne];exact h4 q hq
   ·exact⟨arr,by rw[zD,if_neg hg];exact h2,h3,h4⟩
structure FX(c:Tk)(gs:List Nat)(w w':World):Prop where
 os:w'.os=w.os
 tape:w'.tape=w.tape
 output:w'.output=w.output
 size:w.heap.size≤w'.heap.size
 base:c.B≤w.heap.size
 block: ∀k,k<c.B→k∉c.own→k∉gs→blk w' k=blk w k
variable{gs:List Nat}
theorem FX.refl(h:c.B≤w.heap.size):FX c gs w w:=⟨rfl,rfl,rfl,Nat.le_refl _,h,fun _ _ _ _=>rfl⟩
theorem FX.fb{w1:World}(h:FX c gs w w1)(k:FB c w1 w'):FX c gs w w':=
 ⟨k.os.trans h.os,k.tape.trans h.tape,k.output.trans h.output,Nat.le_trans h.size k.size,h.base,fun i h1 h2 h3=>(k.block i h1 h2).trans (h.block i h1 h2 h3)⟩
theorem FX.ge(h:FX c gs w w'):c.B≤w'.heap.size:=Nat.le_trans h.base h.size
theorem FX.set(h:FX c gs w w'){g i:Nat}(hg:g∈gs)(v:Value):FX c gs w (w'.setCell ⟨g,i,none⟩ v):=
 ⟨h.os,h.tape,h.output,by rw[size_set];exact h.size,h.base,fun k h1 h2 h3=>by rw[zD,if_neg (by rintro rfl;exact h3 hg)];exact h.block k h1 h2 h3⟩
def Tk.far(c:Tk)(g:Nat):Prop:=g<c.B∧g∉ [c.tb,c.sb,c.hb,c.b,c.wb,c.lb,c.mb]
theorem Tk.far.own{g:Nat}(h:c.far g):g∉c.own:=by
 have:=h.2;simp only[List.mem_cons,List.not_mem_nil,or_false,not_or]at this;simp only[Tk.own,List.mem_cons,List.not_mem_nil,or_false,not_or];exact⟨this.1,this.2.1,this.2.2.2.1,this.2.2.2.2.1,this.2.2.2.2.2.1⟩
theorem TrAt.other(h:TrAt w c m n cl wv T){g i:Nat}(hg:c.far g)(v:Value):TrAt (w.setCell ⟨g,i,none⟩ v) c m n cl wv T:=by
 have hF:Fr [g] w (w.setCell ⟨g,i,none⟩ v):=(Fr.refl _ _).setCell (by simp) _;have hf:=hg.2;simp only[List.mem_cons,List.not_mem_nil,or_false,not_or]at hf;obtain⟨h1,h2,h3,h4,h5,h6,h7⟩:=hf;refine⟨hF.at h.t (by simp;exact Ne.symm h1),hF.at h.s (by simp;exact Ne.symm h2),h.h.fr hF (by simp;exact Ne.symm h3) (by simp;exact Ne.symm h4) (by simp;exact Ne.symm h5) (by simp;exact Ne.symm h6),h.cl.fr hF (by simp;exact Ne.symm h7),zL h.wk hF ?_,h.ok,h.wd,h.lo,h.ap,h.sl,h.w0,h.ls,h.lf⟩;intro y hy;have:=own_ge' h.wk y hy;have:=hg.1
 simp;omega
theorem RowsIn.fb{rs:List Rw}{ls:List (List Int)}(h:RowsIn w rs ls)(hF:FB c w w')(hg: ∀r,r∈rs→c.far r.g):RowsIn w' rs ls:=
 h.keep fun r hr o ho=>by rw[hF.block _ (hg r hr).1 (hg r hr).own];exact ho
theorem cell_fx{t i:Nat}{u:Value}(h:w.cell? ⟨t,i,none⟩=some u)(hF:FX c gs w w')(h1:t<c.B)(h2:t∉c.own)(h3:t∉gs):w'.cell? ⟨t,i,none⟩=some u:=by
 rw[←h];exact World.cell?_of_block (hF.block t h1 h2 h3)
end
end Go.Proofs.YtghkahcogphomaaGreat
