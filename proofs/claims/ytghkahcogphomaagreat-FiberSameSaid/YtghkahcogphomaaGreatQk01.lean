/- Fibers: a part of the walk. No condition. -/
import Derived.Test.YtghkahcogphomaaGreatRows
import Derived.WalkKit
import Derived.WalkLawsBesides
import Derived.WalkSpells
import Derived.Outline
import Derived.OpenShut
import Derived.OneCell
import Derived.Lib.Hide
import Derived.Deep.QuietTactic
import Derived.BigQuiet
import Derived.Laws.MakeOwn
import Derived.Laws.BitsAllLaws
import Derived.OwnWalk
import Derived.RegionTactic
import Derived.BigRegion
import Derived.LoopTactic
import Derived.Deep.LoopGhost
set_option linter.all false
namespace Go.Proofs.YtghkahcogphomaaGreat
section
open Go.ChangeShapes Go.WideShapes Go.RowKit
theorem ret_int{k:IntKind}{a b:Int}(h:a=b):Ending.returned (.int k a)=.returned (.int k b):=by rw[h]
theorem ret_bool{a b:Bool}(h:a=b):Ending.returned (.bool a)=.returned (.bool b):=by rw[h]
def blk(w:World)(k:Nat):Option Obj:=w.heap[k]?
theorem zA{w:World}{b i:Nat}{c:Array Value}{t:TypeId}{v:Value}(h:blk w b=some (.cells c t (0,0)))(hv:c[i]? =some v):w.cell? ⟨b,i,none⟩=some v:=by
 unfold blk at h;simp[World.cell?,h,hv]
theorem zE{w:World}{b i:Nat}{c:Array Value}{t:TypeId}(h:blk w b=some (.cells c t (0,0))):w.frozen? ⟨b,i,none⟩=false:=by
 unfold blk at h;simp[World.frozen?,h]
def setObj(i:Nat)(v:Value):Obj→Obj
 | .cells c t fr=> .cells (c.setIfInBounds i v) t fr
 |o=>o
theorem zB(w:World)(o:Obj)(k:Nat):blk (w.alloc o) k=if k=w.heap.size then some o else blk w k:=by
 show(w.heap.push o)[k]? =_
 rw[Array.getElem?_push];rfl
theorem zD(w:World)(b i:Nat)(v:Value)(k:Nat):blk (w.setCell ⟨b,i,none⟩ v) k=if k=b then(blk w k).map (setObj i v)else blk w k:=by
 unfold blk;by_cases h:k=b
 ·subst h;simp only[World.setCell,Array.getElem?_modify,if_pos];cases w.heap[k]? with
  |none=>rfl
  |some o=>cases o<;>rfl
 ·rw[if_neg h,Below.heap_setCell _ _ _ _ (by simpa using h)]
theorem blk_drew(w:World)(k:Nat):blk w.drew k=blk w k:=rfl
theorem size_set(w:World)(a:Addr)(v:Value):(w.setCell a v).heap.size=w.heap.size:=by simp[World.setCell]
theorem zC(w:World)(o:Obj):(w.alloc o).heap.size=w.heap.size+1:=by show(w.heap.push o).size=_;simp
theorem zF{w:World}{b:Nat}{o:Obj}(h:blk w b=some o):b<w.heap.size:=lt_of_block h
structure Fr(S:List Nat)(w w':World):Prop where
 os:w'.os=w.os
 tape:w'.tape=w.tape
 output:w'.output=w.output
 size:w.heap.size≤w'.heap.size
 block: ∀k,k<w.heap.size→k∉S→blk w' k=blk w k
theorem Fr.refl(S:List Nat)(w:World):Fr S w w:=⟨rfl,rfl,rfl,Nat.le_refl _,fun _ _ _=>rfl⟩
theorem Fr.trans{S T:List Nat}{a b c:World}(h:Fr S a b)(k:Fr T b c)(hT: ∀x,x∈T→x∈S∨a.heap.size≤x):Fr S a c:=
 ⟨k.os.trans h.os,k.tape.trans h.tape,k.output.trans h.output,Nat.le_trans h.size k.size,fun i hi hn=>
   (k.block i (Nat.lt_of_lt_of_le hi h.size) (fun hm=>by rcases hT i hm with h1|h1;exact hn h1;omega)).trans (h.block i hi hn)⟩
theorem Fr.same{S:List Nat}{a b c:World}(h:Fr S a b)(k:Fr S b c):Fr S a c:=h.trans k fun _ hx=> .inl hx
theorem Fr.mono{S T:List Nat}{a b:World}(h:Fr S a b)(hS: ∀x,x∈S→x∈T∨a.heap.size≤x):Fr T a b:=
 (Fr.refl T a).trans h hS
theorem Fr.drew{S:List Nat}{a w:World}(h:Fr S a w):Fr S a w.drew:=⟨h.os,h.tape,h.output,h.size,h.block⟩
theorem Fr.drewN{S:List Nat}{a w:World}(h:Fr S a w)(n:Nat):Fr S a (w.drewN n):=⟨h.os,h.tape,h.output,h.size,h.block⟩
theorem Fr.alloc{S:List Nat}{a w:World}(h:Fr S a w)(o:Obj):Fr S a (w.alloc o):=
 ⟨h.os,h.tape,h.output,by rw[zC];have:=h.size;omega,fun k hk hn=>by
   rw[zB,if_neg (by have:=h.size;omega)];exact h.block k hk hn⟩
theorem Fr.setCell{S:List Nat}{a w:World}(h:Fr S a w){b i:Nat}(hp:b∈S∨a.heap.size≤b)(v:Value):Fr S a (w.setCell ⟨b,i,none⟩ v):=
 ⟨h.os,h.tape,h.output,by rw[size_set];exact h.size,fun k hk hn=>by
   rw[zD,if_neg (by rintro rfl;rcases hp with h1|h1;exact hn h1;omega)];exact h.block k hk hn⟩
theorem Fr.at{S:List Nat}{w w':World}(h:Fr S w w'){k:Nat}{o:Obj}(hk:blk w k=some o)(hn:k∉S):blk w' k=some o:=
 (h.block k (zF hk) hn).trans hk
theorem Fr.below{w w':World}(h:Fr [] w w'):Below w.heap.size w w':=⟨h.os,h.tape,h.output,h.size,fun k hk=>h.block k hk (by simp)⟩
def mkW(t n:Int):Int:=(n%2305843009213693952)*8+t
def wVal(w:Int):Int:=if w%8=0∧9223372036854775808≤w then w/8-2305843009213693952 else w/8
theorem mkW_bd(t n:Int)(h0:0≤t)(h1:t≤5):0≤mkW t n∧mkW t n<18446744073709551616:=by unfold mkW;omega
theorem wraps_u64(n:Int)(h₀:0≤n)(h₁:n<2^64):IntKind.u64.wrap n=n:=by rw[IntKind.wrap_u64];omega
theorem and7(t:Int)(h0:0≤t)(h1:t<18446744073709551616):bits BinOp.and IntKind.u64 t 7=t%8:=
 bits_mask .u64 64 (by decide) wraps_u64 3 (by decide) t h0 (by omega)
theorem or_made(t n:Int)(h0:0≤t)(h1:t≤7):bits BinOp.or IntKind.u64 (IntKind.u64.wrap (IntKind.u64.wrap n*8)) t=mkW t n:=by
 have e:IntKind.u64.wrap (IntKind.u64.wrap n*8)=(n%2305843009213693952)*8:=by
  rw[IntKind.wrap_u64,IntKind.wrap_u64];omega
 rw[e,bits_join .u64 64 (by decide) wraps_u64 3 _ _ (by omega) (by omega) (by omega) h0 (by omega) (by omega)];rfl
theorem made_c(t n:Int)(w:World)(h0:0≤t)(h1:t≤5):
 Calls Tryz.prog 102 #[.int .u64 t,.int .i64 n] w fun e w'=>e=.returned (.int .u64 (mkW t n))∧w=w':=by
 go_enter Tryz.func102,Tryz.ntmps102;go_wp2;go_ret;exact⟨ret_int (or_made t n h0 (by omega)),rfl⟩
theorem place_c(n:Int)(w:World):Calls Tryz.prog 122 #[.int .i64 n] w fun e w'=>e=.returned (.int .u64 (mkW 1 n))∧w=w':=by
 go_enter Tryz.func122,Tryz.ntmps122;go_wp2_with (go_at_call 102;refine(made_c _ _ _ (by omega) (by omega)).mono ?_;rintro e w' ⟨rfl,rfl⟩);go_ret;exact⟨rfl,rfl⟩
theorem single_c(n:Int)(w:World):Calls Tryz.prog 71 #[.int .i64 n] w fun e w'=>e=.returned (.int .u64 (mkW 5 n))∧w=w':=by
 go_enter Tryz.func71,Tryz.ntmps71;go_wp2_with (go_at_call 102;refine(made_c _ _ _ (by omega) (by omega)).mono ?_;rintro e w' ⟨rfl,rfl⟩);go_ret;exact⟨rfl,rfl⟩
theorem zx(t:Int)(w:World)(h0:0≤t)(h1:t<18446744073709551616):
 Calls Tryz.prog 48 #[.int .u64 t] w fun e w'=>e=.returned (.int .i64 (t%8))∧w=w':=by
 have e7:=and7 t h0 h1;go_enter Tryz.func48,Tryz.ntmps48;go_wp2;go_ret;exact⟨rfl,rfl⟩
theorem value_c(t:Int)(w:World)(h0:0≤t)(h1:t<18446744073709551616):
 Calls Tryz.prog 93 #[.int .u64 t] w fun e w'=>e=.returned (.int .i64 (wVal t))∧w=w':=by
 have e7:=and7 t h0 h1;by_cases hk:t%8=0
 ·have hb:(t%8==0)=true:=by simpa using hk
  go_enter Tryz.func93,Tryz.ntmps93;go_wp2;go_ret;refine⟨ret_int ?_,rfl⟩;unfold wVal wrap64;omega
 ·have hb:(t%8==0)=false:=by simpa using hk
  go_enter Tryz.func93,Tryz.ntmps93;go_wp2;go_ret;refine⟨ret_int ?_,rfl⟩;unfold wVal;rw[if_neg (by omega)]
theorem wmade_r(t n:Int)(w:World)(h0:0≤t)(h1:t≤5):
 Calls Tryz.prog 74 #[.int .i64 t,.int .i64 n] w fun e w'=>e=.returned (.int .u64 (mkW t n))∧w=w':=by
 go_enter Tryz.func74,Tryz.ntmps74;go_wp2;go_ret;refine⟨ret_int ?_,rfl⟩;simp only[IntKind.wrap_u64,mkW];rw[Int.tmod_eq_emod_of_nonneg (by omega)];omega
structure Ar where
 words:List Int
 lines:List (Bool×Bool)
 sf:Nat
 st:Nat
 gf:Nat
 gt:Nat
 cf:Nat
 ct:Nat
 next:Nat
def Ar.cells(A:Ar)(wb lb:Nat):Array Value:=
 #[.slice (some ⟨wb,0,none⟩) A.words.length A.words.length,.slice (some ⟨lb,0,none⟩) A.lines.length A.lines.length,.int .i64 A.sf,.int .i64 A.st,.int .i64 A.gf,.int .i64 A.gt,.int .i64 A.cf,.int .i64 A.ct,.int .i64 A.next]
def wordCells(l:List Int):Array Value:=(l.map (Value.int .u64)).toArray
def zk(l:List (Bool×Bool)):Array Value:=(l.flatMap fun x=>[.bool x.1,.bool x.2]).toArray
structure ArAt(w:World)(b wb lb:Nat)(A:Ar):Prop where
 hb:blk w b=some (.cells (A.cells wb lb) 152 (0,0))
 hw:blk w wb=some (.cells (wordCells A.words) 28 (0,0))
 hl:blk w lb=some (.cells (zk A.lines) 164 (0,0))
 n1:b≠wb
 n2:b≠lb
 n3:wb≠lb
def zeros(n:Nat):List Int:=List.replicate n 0
def clear(n:Nat):List (Bool×Bool):=List.replicate n (false,false)
variable{w:World}{b wb lb:Nat}{A:Ar}
theorem ArAt.c0(h:ArAt w b wb lb A):w.cell? ⟨b,0,none⟩=some (.slice (some ⟨wb,0,none⟩) A.words.length A.words.length):=zA h.hb rfl
theorem ArAt.c1(h:ArAt w b wb lb A):w.cell? ⟨b,1,none⟩=some (.slice (some ⟨lb,0,none⟩) A.lines.length A.lines.length):=zA h.hb rfl
theorem ArAt.c2(h:ArAt w b wb lb A):w.cell? ⟨b,2,none⟩=some (.int .i64 A.sf):=zA h.hb rfl
theorem ArAt.c3(h:ArAt w b wb lb A):w.cell? ⟨b,3,none⟩=some (.int .i64 A.st):=zA h.hb rfl
theorem ArAt.c4(h:ArAt w b wb lb A):w.cell? ⟨b,4,none⟩=some (.int .i64 A.gf):=zA h.hb rfl
theorem ArAt.c5(h:ArAt w b wb lb A):w.cell? ⟨b,5,none⟩=some (.int .i64 A.gt):=zA h.hb rfl
theorem ArAt.c6(h:ArAt w b wb lb A):w.cell? ⟨b,6,none⟩=some (.int .i64 A.cf):=zA h.hb rfl
theorem ArAt.c7(h:ArAt w b wb lb A):w.cell? ⟨b,7,none⟩=some (.int .i64 A.ct):=zA h.hb rfl
theorem ArAt.c8(h:ArAt w b wb lb A):w.cell? ⟨b,8,none⟩=some (.int .i64 A.next):=zA h.hb rfl
theorem ArAt.fb(h:ArAt w b wb lb A)(i:Nat):w.frozen? ⟨b,i,none⟩=false:=zE h.hb
theorem ArAt.fw(h:ArAt w b wb lb A)(i:Nat):w.frozen? ⟨wb,i,none⟩=false:=zE h.hw
theorem ArAt.fl(h:ArAt w b wb lb A)(i:Nat):w.frozen? ⟨lb,i,none⟩=false:=zE h.hl
theorem wordCells_get(l:List Int)(i:Nat):(wordCells l)[i]? =(l[i]?).map (Value.int .u64):=by simp[wordCells]
theorem ArAt.word(h:ArAt w b wb lb A){i:Nat}(hi:i<A.words.length):w.cell? ⟨wb,i,none⟩=some (.int .u64 (A.words[i]?.getD 0)):=
 zA h.hw (by rw[wordCells_get];simp[hi])
theorem lineCells_get'(l:List (Bool×Bool))(i:Nat):(l.flatMap fun x=>[Value.bool x.1,Value.bool x.2])[i]? =(l[i/2]?).map fun x=>if i%2=0 then .bool x.1 else .bool x.2:=by
 induction l generalizing i with
 |nil=>simp
 |cons x l ih=>
  match i with
  |0=>simp
  |1=>simp
  |i+2=>simp[ih i,Nat.add_div_right]
theorem lineCells_get(l:List (Bool×Bool))(i:Nat):(zk l)[i]? =(l[i/2]?).map fun x=>if i%2=0 then .bool x.1 else .bool x.2:=by
 simp only[zk,List.getElem?_toArray];exact lineCells_get' l i
def tk(l:List (Bool×Bool))(i:Nat):Bool:=(l[i]?.getD (true,true)).1
def mk'(l:List (Bool×Bool))(i:Nat):Bool:=(l[i]?.getD (true,true)).2
theorem ArAt.taken(h:ArAt w b wb lb A){i:Nat}(hi:i<A.lines.length):w.cell? ⟨lb,i*2,none⟩=some (.bool (tk A.lines i)):=
 zA h.hl (by rw[lineCells_get];simp[hi,tk])
theorem ArAt.marked(h:ArAt w b wb lb A){i:Nat}(hi:i<A.lines.length):w.cell? ⟨lb,i*2+1,none⟩=some (.bool (mk' A.lines i)):=
 zA h.hl (by rw[lineCells_get];have:(i*2+1)/2=i:=by omega
             simp[hi,mk',this])
theorem info_word:(Tryz.prog.info? 28).map (fun i=>(i.zero,i.size,i.bytes))=some (some (.int .u64 0),1,8):=by kernel_rfl
theorem info_line:(Tryz.prog.info? 164).map (fun i=>(i.zero,i.size,i.bytes))=some (some (.agg #[.bool false,.bool false]),2,2):=by kernel_rfl
theorem made_words(n:Nat):madeCells #[.int .u64 0] n=wordCells (zeros n):=by
 apply Array.ext_getElem?;intro i;by_cases hi:i<n<;>simp[madeCells,wordCells,zeros,hi,Nat.mod_one]
theorem made_lines(n:Nat):madeCells #[.bool false,.bool false] (n*2)=zk (clear n):=by
 apply Array.ext_getElem?;intro i;rw[lineCells_get];by_cases hi:i<n*2
 ·have h2:i/2<n:=by omega
  rcases Nat.mod_two_eq_zero_or_one i with h|h<;>simp[madeCells,clear,hi,h2,h]
 ·have h2: ¬i/2<n:=by omega
  simp[madeCells,clear,hi,h2]
theorem run_words(w:World)(n:Nat)(h:n≤1048576):
 (Instr.makeSlice 29 (.int .i64 (n:Int)) (.int .i64 (n:Int))).run Tryz.prog w=.ok (.slice (some ⟨w.heap.size,0,none⟩) n n) (w.alloc (.cells (wordCells (zeros n)) 28)):=by
 obtain⟨i0,hi,hz0,hz1,hz2⟩:=info_parts info_word;have:=run_make (P:=Tryz.prog) w 29 28 i0 (.int .u64 0) Tryz.underlying29 hi hz0 .i64 .i64 (n:Int) n (by omega) (by omega) (by rw[hz2];omega) (by omega);rw[this,hz1];simp only[Int.toNat_natCast,Nat.mul_one];rw[show(Value.int IntKind.u64 0).cells= #[.int .u64 0]from rfl,made_words]
theorem run_lines(w:World)(n:Nat)(h:n≤65536):
 (Instr.makeSlice 148 (.int .i64 (n:Int)) (.int .i64 (n:Int))).run Tryz.prog w=.ok (.slice (some ⟨w.heap.size,0,none⟩) n n) (w.alloc (.cells (zk (clear n)) 164)):=by
 obtain⟨i0,hi,hz0,hz1,hz2⟩:=info_parts info_line;have:=run_make (P:=Tryz.prog) w 148 164 i0 (.agg #[.bool false,.bool false]) Tryz.underlying148 hi hz0 .i64 .i64 (n:Int) n (by omega) (by omega) (by rw[hz2];omega) (by omega);rw[this,hz1];simp only[Int.toNat_natCast];rw[show(Value.agg #[.bool false,.bool false]).cells= #[.bool false,.bool false]from rfl,made_lines]
def Ar.new(m:Nat):Ar:=⟨zeros (m*256),clear (m*16),0,0,0,0,0,0,0⟩
def NewAr(m:Nat)(w:World)(e:Ending)(w':World):Prop:=
 ∃b wb lb,e=.returned (.pointer (some ⟨b,0,none⟩))∧ArAt w' b wb lb (Ar.new m)∧Fr [] w w'∧w.heap.size≤b∧w.heap.size≤wb∧w.heap.size≤lb
theorem newAr_mk{m:Nat}{w w':World}{b wb lb:Nat}(h:ArAt w' b wb lb (Ar.new m))(hf:Fr [] w w')(h1:w.heap.size≤b)(h2:w.heap.size≤wb)(h3:w.heap.size≤lb):
 NewAr m w (.returned (.pointer (some ⟨b,0,none⟩))) w':=⟨b,wb,lb,rfl,h,hf,h1,h2,h3⟩
theorem newAr_one(m:Nat)(w:World):
 NewAr m w (.returned (.pointer (some ⟨w.heap.size+2,0,none⟩))) (((w.alloc (.cells (wordCells (zeros (m*256))) 28)).alloc (.cells (zk (clear (m*16))) 164)).alloc (.cells ((Ar.new m).cells w.heap.size (w.heap.size+1)) 152)).drew:=by
 refine newAr_mk (wb:=w.heap.size) (lb:=w.heap.size+1) ⟨?_, ?_, ?_,by omega,by omega,by omega⟩ ((((Fr.refl _ _).alloc _).alloc _).alloc _).drew (by omega) (by omega) (by omega)<;>simp[blk_drew,zB,Ar.new]<;>omega
theorem newAr_two(m:Nat)(w:World):
 NewAr m w (.returned (.pointer (some ⟨w.heap.size+2,0,none⟩))) (((w.alloc (.cells (zk (clear (m*16))) 164)).alloc (.cells (wordCells (zeros (m*256))) 28)).alloc (.cells ((Ar.new m).cells (w.heap.size+1) w.heap.size) 152)).drew:=by
 refine newAr_mk (wb:=w.heap.size+1) (lb:=w.heap.size) ⟨?_, ?_, ?_,by omega,by omega,by omega⟩ ((((Fr.refl _ _).alloc _).alloc _).alloc _).drew (by omega) (by omega) (by omega)<;>simp[blk_drew,zB,Ar.new]<;>omega
theorem len_zeros(n:Nat):(zeros n).length=n:=by simp[zeros]
theorem len_clear(n:Nat):(clear n).length=n:=by simp[clear]
theorem new_mid(m:Nat)(w:World)(h0:2≤m)(h1:m≤4096):
 Calls Tryz.prog 94 #[.int .i64 (m:Int)] w (NewAr m w):=by
 have e1: ∀w,(Instr.makeSlice 29 (.int .i64 ((m:Int)*256)) (.int .i64 ((m:Int)*256))).run Tryz.prog w=.ok (.slice (some ⟨w.heap.size,0,none⟩) (m*256) (m*256)) (w.alloc (.cells (wordCells (zeros (m*256))) 28)):=
  fun w=>by have:=run_words w (m*256) (by omega);rw[←this];simp
 have e2: ∀w,(Instr.makeSlice 148 (.int .i64 ((m:Int)*16)) (.int .i64 ((m:Int)*16))).run Tryz.prog w=.ok (.slice (some ⟨w.heap.size,0,none⟩) (m*16) (m*16)) (w.alloc (.cells (zk (clear (m*16))) 164)):=
  fun w=>by have:=run_lines w (m*16) (by omega);rw[←this];simp
 have n1:=newAr_one m w;have n2:=newAr_two m w;simp only[Ar.new,Ar.cells,len_zeros,len_clear]at n1 n2;have N1:=Lib.hid n1;have N2:=Lib.hid n2;clear n1 n2;go_enter Tryz.func94,Tryz.ntmps94;go_wp2
 go_region
 all_goals
  go_wp2;go_ret
  first|exact N1.out|exact N2.out
theorem new_low(n:Int)(w:World)(h0:n≤1):
 Calls Tryz.prog 94 #[.int .i64 n] w (NewAr 1 w):=by
 have e1: ∀w,(Instr.makeSlice 29 (.int .i64 256) (.int .i64 256)).run Tryz.prog w=.ok (.slice (some ⟨w.heap.size,0,none⟩) 256 256) (w.alloc (.cells (wordCells (zeros 256)) 28)):=
  fun w=>run_words w 256 (by omega)
 have e2: ∀w,(Instr.makeSlice 148 (.int .i64 16) (.int .i64 16)).run Tryz.prog w=.ok (.slice (some ⟨w.heap.size,0,none⟩) 16 16) (w.alloc (.cells (zk (clear 16)) 164)):=
  fun w=>run_lines w 16 (by omega)
 have n1:=newAr_one 1 w;have n2:=newAr_two 1 w;simp only[Ar.new,Ar.cells,len_zeros,len_clear]at n1 n2;have N1:=Lib.hid n1;have N2:=Lib.hid n2;clear n1 n2;go_enter Tryz.func94,Tryz.ntmps94;go_wp2
 go_region
 all_goals
  go_wp2;go_ret
  first|exact N1.out|exact N2.out
theorem new_high(n:Int)(w:World)(h0:4096<n):
 Calls Tryz.prog 94 #[.int .i64 n] w (NewAr 4096 w):=by
 have e1: ∀w,(Instr.makeSlice 29 (.int .i64 1048576) (.int .i64 1048576)).run Tryz.prog w=.ok (.slice (some ⟨w.heap.size,0,none⟩) 1048576 1048576) (w.alloc (.cells (wordCells (zeros 1048576)) 28)):=
  fun w=>run_words w 1048576 (by omega)
 have e2: ∀w,(Instr.makeSlice 148 (.int .i64 65536) (.int .i64 65536)).run Tryz.prog w=.ok (.slice (some ⟨w.heap.size,0,none⟩) 65536 65536) (w.alloc (.cells (zk (clear 65536)) 164)):=
  fun w=>run_lines w 65536 (by omega)
 have n1:=newAr_one 4096 w;have n2:=newAr_two 4096 w;simp only[Ar.new,Ar.cells,len_zeros,len_clear]at n1 n2;have N1:=Lib.hid n1;have N2:=Lib.hid n2;clear n1 n2;go_enter Tryz.func94,Tryz.ntmps94;go_wp2
 go_region
 all_goals
  go_wp2;go_ret
  first|exact N1.out|exact N2.out
def blocksOf(n:Int):Nat:=if n≤1 then 1 else if 4096<n then 4096 else n.toNat
theorem new_c(n:Int)(w:World):Calls Tryz.prog 94 #[.int .i64 n] w (NewAr (blocksOf n) w):=by
 unfold blocksOf;by_cases a:n≤1
 ·rw[if_pos a];exact new_low n w a
 ·rw[if_neg a];by_cases b:4096<n
  ·rw[if_pos b];exact new_high n w b
  ·rw[if_neg b];have:=new_mid n.toNat w (by omega) (by omega)
   rwa[show((n.toNat:Nat):Int)=n from by omega]at this
structure Ar.Ok(A:Ar)(m:Nat):Prop where
 m1:1≤m
 m2:m≤4096
 wl:A.words.length=m*256
 ll:A.lines.length=m*16
 s1:A.sf≤A.st
 s2:A.st≤m*256
 g1:A.gf≤A.gt
 g2:A.gt≤m*256
 c1:A.cf≤A.ct
 c2:A.ct≤m*256
 x1:A.next≤m*16
theorem Ar.new_ok(m:Nat)(h1:1≤m)(h2:m≤4096):(Ar.new m).Ok m:=
 ⟨h1,h2,by simp[Ar.new,len_zeros],by simp[Ar.new,len_clear],by simp[Ar.new],by simp[Ar.new],by simp[Ar.new],by simp[Ar.new],by simp[Ar.new],by simp[Ar.new],by simp[Ar.new]⟩
theorem ArAt.field(hA:ArAt w b wb lb A)(A':Ar)(i:Nat)(v:Value)(h:(A.cells wb lb).setIfInBounds i v=A'.cells wb lb)(h1:A'.words=A.words)(h2:A'.lines=A.lines):ArAt (w.setCell ⟨b,i,none⟩ v) b wb lb A':=by
 obtain⟨hb,hw,hl,n1,n2,n3⟩:=hA;refine⟨?_, ?_, ?_,n1,n2,n3⟩
 ·rw[zD,if_pos rfl,hb,←h];rfl
 ·rw[zD,if_neg (Ne.symm n1),hw,h1]
 ·rw[zD,if_neg (Ne.symm n2),hl,h2]
theorem ArAt.fr{S:List Nat}{w':World}(h:ArAt w b wb lb A)(hf:Fr S w w')(h1:b∉S)(h2:wb∉S)(h3:lb∉S):ArAt w' b wb lb A:=
 ⟨hf.at h.hb h1,hf.at h.hw h2,hf.at h.hl h3,h.n1,h.n2,h.n3⟩
theorem blocks_c(w:World){m:Nat}(hA:ArAt w b wb lb A)(ok:A.Ok m):
 Calls Tryz.prog 83 #[.pointer (some ⟨b,0,none⟩)] w fun e w'=>e=.returned (.int .i64 m)∧w=w':=by
 have c0:=hA.c0;rw[ok.wl]at c0;have h1:=ok.m1;have h2:=ok.m2;go_enter Tryz.func83,Tryz.ntmps83;go_wp2;go_ret;exact⟨ret_int (by omega),rfl⟩
theorem get_yes(w:World){m:Nat}(hA:ArAt w b wb lb A)(ok:A.Ok m)(i:Nat)(hi:i<m*256):
 Calls Tryz.prog 115 #[.pointer (some ⟨b,0,none⟩),.int .i64 (i:Int)] w fun e w'=>e=.returned (.tuple #[.int .u64 (A.words[i]?.getD 0),.int .i64 0])∧w=w':=by
 have c0:=hA.c0;have cw:=hA.word (i:=i) (by rw[ok.wl];exact hi);rw[ok.wl]at c0;have h1:=ok.m1;have h2:=ok.m2;obtain⟨x,hx⟩: ∃x,x=A.words[i]?.getD 0:=⟨_,rfl⟩;rw[←hx]at cw⊢;clear hx;go_enter Tryz.func115,Tryz.ntmps115;go_wp2;go_ret2;exact⟨rfl,rfl⟩
theorem get_no(w:World){m:Nat}(hA:ArAt w b wb lb A)(ok:A.Ok m)(i:Int)(hi:i<0∨(m*256:Int)≤i):
 Calls Tryz.prog 115 #[.pointer (some ⟨b,0,none⟩),.int .i64 i] w fun e w'=>e=.returned (.tuple #[.int .u64 0,.int .i64 141])∧w=w':=by
 have c0:=hA.c0;rw[ok.wl]at c0;have h1:=ok.m1;have h2:=ok.m2;by_cases hn:i<0
 ·go_enter Tryz.func115,Tryz.ntmps115;go_wp2;go_ret2;exact⟨rfl,rfl⟩
 ·have hm:(m*256:Int)≤i:=by omega
  clear hi;go_enter Tryz.func115,Tryz.ntmps115;go_wp2;go_ret2;exact⟨rfl,rfl⟩
def Ar.set(A:Ar)(i:Nat)(v:Int):Ar:={ A with words:=A.words.set i v }
theorem ArAt.set(hA:ArAt w b wb lb A)(i:Nat)(v:Int):ArAt (w.setCell ⟨wb,i,none⟩ (.int .u64 v)) b wb lb (A.set i v):=by
 obtain⟨hb,hw,hl,n1,n2,n3⟩:=hA;refine⟨?_, ?_, ?_,n1,n2,n3⟩
 ·rw[zD,if_neg n1,hb];simp[Ar.cells,Ar.set]
 ·rw[zD,if_pos rfl,hw];simp[Ar.set,wordCells,setObj]
 ·rw[zD,if_neg (Ne.symm n3),hl];rfl
theorem set_yes(w:World){m:Nat}(hA:ArAt w b wb lb A)(ok:A.Ok m)(i:Nat)(v:Int)(hi:i<m*256):
 Calls Tryz.prog 117 #[.pointer (some ⟨b,0,none⟩),.int .i64 (i:Int),.int .u64 v] w fun e w'=>e=.returned (.int .i64 0)∧ArAt w' b wb lb (A.set i v)∧Fr [wb] w w':=by
 have H:=Lib.hid (hA.set i v);have c0:=hA.c0;have cw:=hA.word (i:=i) (by rw[ok.wl];exact hi);have fw:=hA.fw i;rw[ok.wl]at c0;have h1:=ok.m1;have h2:=ok.m2;go_enter Tryz.func117,Tryz.ntmps117;go_wp2;go_ret;exact⟨rfl,H.out,(Fr.refl _ _).setCell (by simp) _⟩
theorem set_no(w:World){m:Nat}(hA:ArAt w b wb lb A)(ok:A.Ok m)(i:Int)(v:Int)(hi:i<0∨(m*256:Int)≤i):
 Calls Tryz.prog 117 #[.pointer (some ⟨b,0,none⟩),.int .i64 i,.int .u64 v] w fun e w'=>e=.returned (.int .i64 141)∧w=w':=by
 have c0:=hA.c0;rw[ok.wl]at c0;have h1:=ok.m1;have h2:=ok.m2;by_cases hn:i<0
 ·go_enter Tryz.func117,Tryz.ntmps117;go_wp2;go_ret;exact⟨rfl,rfl⟩
 ·have hm:(m*256:Int)≤i:=by omega
  clear hi;go_enter Tryz.func117,Tryz.ntmps117;go_wp2;go_ret;exact⟨rfl,rfl⟩
end
section
open Go.ChangeShapes Go.WideShapes Go.RowKit
variable{w:World}{b wb lb:Nat}{A:Ar}
theorem take_yes(w:World)(b o:Nat)(f t n:Int)(h0:w.cell? ⟨b,o,none⟩=some (.int .i64 f))(h1:w.cell? ⟨b,o+1,none⟩=some (.int .i64 t))(hf:w.frozen? ⟨b,o,none⟩=false)
 (b0:0≤f) (b1:f≤1048576) (b2:0≤t) (b3:t≤1048576) (b4:0≤n) (b5:n≤1048576) (hn:n≤t-f):
 Calls Tryz.prog 130 #[.pointer (some ⟨b,o,none⟩),.int .i64 n] w fun e w'=>e=.returned (.tuple #[.int .i64 f,.bool true])∧w'=(w.setCell ⟨b,o,none⟩ (.int .i64 (f+n))).drew:=by
 go_enter Tryz.func130,Tryz.ntmps130;go_wp2
 go_region
 go_wp2;go_ret2;exact⟨rfl,rfl⟩
theorem take_no(w:World)(b o:Nat)(f t n:Int)(h0:w.cell? ⟨b,o,none⟩=some (.int .i64 f))(h1:w.cell? ⟨b,o+1,none⟩=some (.int .i64 t))
 (b0:0≤f) (b1:f≤1048576) (b2:0≤t) (b3:t≤1048576) (hn:t-f<n):
 Calls Tryz.prog 130 #[.pointer (some ⟨b,o,none⟩),.int .i64 n] w fun e w'=>e=.returned (.tuple #[.int .i64 0,.bool false])∧w'=w.drew:=by
 go_enter Tryz.func130,Tryz.ntmps130;go_wp2
 go_region
 go_wp2;go_ret2;exact⟨rfl,rfl⟩
def hole(l:List (Bool×Bool))(from_:Nat):Nat:=from_+(((l.drop from_).take (16-from_%16)).takeWhile fun x=> !x.1).length
theorem takeWhile_lt{α:Type}(p:α→Bool)(l:List α)(j:Nat)(h:j≤(l.takeWhile p).length):(j<(l.takeWhile p).length)↔∃x,l[j]? =some x∧p x=true:=by
 induction l generalizing j with
 |nil=>simp
 |cons a l ih=>
  by_cases ha:p a=true
  ·rw[List.takeWhile_cons_of_pos ha]at h⊢;cases j with
   |zero=>simp[ha]
   |succ j=>simp at h⊢;exact ih j h
  ·rw[List.takeWhile_cons_of_neg ha]at h⊢;simp at h;subst h;simp[ha]
theorem hole_le(l:List (Bool×Bool))(f:Nat)(h:f≤l.length):hole l f≤l.length∧f≤hole l f∧hole l f≤f+(16-f%16):=by
 unfold hole;have h1:=(List.takeWhile_prefix (fun x:Bool×Bool=> !x.1) (l:=(l.drop f).take (16-f%16))).length_le;have h2:((l.drop f).take (16-f%16)).length≤l.length-f:=by simp;omega
 have h3:((l.drop f).take (16-f%16)).length≤16-f%16:=by simp;omega
 omega
theorem hole_test(l:List (Bool×Bool))(f k:Nat)(h1:f≤k)(h2:k≤hole l f):k<hole l f↔(k<l.length∧k/16=f/16∧tk l k=false):=by
 unfold hole at h2⊢;obtain⟨j,rfl⟩: ∃j,k=f+j:=⟨k-f,by omega⟩;have:=takeWhile_lt (fun x:Bool×Bool=> !x.1) ((l.drop f).take (16-f%16)) j (by omega);rw[Nat.add_lt_add_iff_left,this];rw[List.getElem?_take];constructor
 ·rintro⟨x,hx,hp⟩;split at hx
  ·rename_i hj
   rw[List.getElem?_drop]at hx;obtain⟨hl,hx⟩:=List.getElem?_eq_some_iff.1 hx;refine⟨hl,by omega, ?_⟩;simp[tk,hl,hx];simpa using hp
  ·simp at hx
 ·rintro⟨hl,hd,ht⟩;rw[if_pos (by omega),List.getElem?_drop];refine⟨l[f+j],by simp[hl], ?_⟩;simpa[tk,hl]using ht
theorem hole_c(w:World){m:Nat}(hA:ArAt w b wb lb A)(ok:A.Ok m)(f:Nat)(hf:f≤m*16):
 Calls Tryz.prog 134 #[.pointer (some ⟨b,0,none⟩),.int .i64 (f:Int)] w fun e w'=>e=.returned (.int .i64 (hole A.lines f))∧w=w':=by
 have c1:=hA.c1;rw[ok.ll]at c1;have h1:=ok.m1;have h2:=ok.m2;have hle:=hole_le A.lines f (by rw[ok.ll];exact hf);rw[ok.ll]at hle;obtain⟨H,hH⟩: ∃H,H=hole A.lines f:=⟨_,rfl⟩;have HT:=Lib.hid (fun k (a:f≤k)=>hole_test A.lines f k a);have HC:=Lib.hid (fun i=>hA.taken (i:=i));rw[←hH]at HT hle⊢;have HL:=Lib.hid ok.ll;clear hH hA ok;go_enter Tryz.func134,Tryz.ntmps134;go_wp2
 go_loop [5] (fun t=> ∃k:Nat,f≤k∧k≤H∧t=.int .i64 k) (fun t=>H-(intOf t).toNat)
 case atStart=>exact⟨f,by omega,by omega,rfl⟩
 case round=>
  obtain⟨k,hk1,hk2,rfl⟩:=hrel;have ht:=HT.out k hk1 hk2;rw[HL.out]at ht;by_cases hlt:k<H
  ·obtain⟨a1,a2,a3⟩:=ht.1 hlt;have hc:=HC.out k (by rw[HL.out];exact a1);rw[a3]at hc;have e1:((k:Int)/16==(f:Int)/16)=true:=by simp;omega
   clear ht;go_wp2
   go_round
   case rel=>exact⟨k+1,by omega,by omega,by go_num⟩
   case measure=>simp[intOf];omega
  ·have hkH:k=H:=by omega
   by_cases b1:k<m*16
   ·have hc:=HC.out k (by rw[HL.out];exact b1);by_cases b2:k/16=f/16
    ·have b3:tk A.lines k=true:=by
      by_cases b3:tk A.lines k=false
      ·exact absurd (ht.2 ⟨b1,b2,b3⟩) hlt
      ·simpa using b3
     rw[b3]at hc;have e1:((k:Int)/16==(f:Int)/16)=true:=by simp;omega
     clear ht b2 b3;subst hkH;go_wp2;go_ret;exact⟨rfl,rfl⟩
    ·have e1:((k:Int)/16==(f:Int)/16)=false:=by simp;omega
     clear ht b2;subst hkH;go_wp2;go_ret;exact⟨rfl,rfl⟩
   ·clear ht;subst hkH;go_wp2;go_ret;exact⟨rfl,rfl⟩
def claimed(l:List (Bool×Bool))(f k:Nat):List (Bool×Bool):=l.mapIdx fun i x=>if f≤i∧i<k then(true,x.2)else x
theorem claimed_self(l:List (Bool×Bool))(f:Nat):claimed l f f=l:=by
 apply List.ext_getElem?;intro i;simp only[claimed,List.getElem?_mapIdx];cases l[i]? with
 |none=>rfl
 |some x=>simp;omega
theorem zo(l:List (Bool×Bool))(f k:Nat):(claimed l f k).length=l.length:=by simp[claimed]
theorem claimed_get(l:List (Bool×Bool))(f k i:Nat):(claimed l f k)[i]? =(l[i]?).map fun x=>if f≤i∧i<k then(true,x.2)else x:=by
 simp only[claimed,List.getElem?_mapIdx]
theorem lineCells_set(l:List (Bool×Bool))(k:Nat)(v:Bool)(hk:k<l.length):(zk l).setIfInBounds (k*2) (.bool v)=zk (l.set k (v,(l[k]?.getD (true,true)).2)):=by
 apply Array.ext_getElem?;intro i;rw[Array.getElem?_setIfInBounds,lineCells_get,lineCells_get]
 have hs:(zk l).size=l.length*2:=by
  simp[zk,List.length_flatMap,List.map_const',List.sum_replicate_nat]
 by_cases h:k*2=i
 ·subst h;have e:k*2/2=k:=by omega
  rw[if_pos rfl,if_pos (by rw[hs];omega),e];simp[hk]
 ·rw[if_neg h];by_cases h2:i/2=k
  ·have hm:i%2=1:=by omega
   simp[h2,hk,hm]
  ·rw[List.getElem?_set_ne (by omega)]
theorem claimed_step(l:List (Bool×Bool))(f k:Nat)(h:f≤k)(hk:k<l.length):(claimed l f k).set k (true,((claimed l f k)[k]?.getD (true,true)).2)=claimed l f (k+1):=by
 apply List.ext_getElem?;intro i;rw[claimed_get,claimed_get];by_cases hi:i=k
 ·subst hi;rw[List.getElem?_set_self (by rw[zo];exact hk)];simp[hk,h]
 ·rw[List.getElem?_set_ne (by omega),claimed_get]
  congr 1
  funext x
  have:(f≤i∧i<k)↔(f≤i∧i<k+1):=by omega
  simp only[this]
def Ar.claim(A:Ar)(f k:Nat):Ar:={ A with lines:=claimed A.lines f k }
theorem ArAt.claimStep{f k:Nat}(hA:ArAt w b wb lb (A.claim f k))(h:f≤k)(hk:k<A.lines.length):ArAt (w.setCell ⟨lb,k*2,none⟩ (.bool true)) b wb lb (A.claim f (k+1)):=by
 obtain⟨hb,hw,hl,n1,n2,n3⟩:=hA;refine⟨?_, ?_, ?_,n1,n2,n3⟩
 ·rw[zD,if_neg n2,hb];simp[Ar.cells,Ar.claim,zo]
 ·rw[zD,if_neg n3,hw];rfl
 ·rw[zD,if_pos rfl,hl];simp only[Option.map_some,setObj,Ar.claim];rw[lineCells_set _ _ _ (by rw[zo];exact hk),claimed_step _ _ _ h hk]
theorem claim_c(w:World){m:Nat}(hA:ArAt w b wb lb A)(ok:A.Ok m)(f t:Nat)(hft:f≤t)(ht:t≤m*16):
 Calls Tryz.prog 132 #[.pointer (some ⟨b,0,none⟩),.int .i64 (f:Int),.int .i64 (t:Int)] w fun e w'=>e=.returned (.agg #[.int .i64 ((f:Int)*16),.int .i64 ((t:Int)*16)])∧ArAt w' b wb lb (A.claim f t)∧Fr [lb] w w':=by
 have h1:=ok.m1;have h2:=ok.m2;have hll:=Lib.hid ok.ll;have hlt:=zF hA.hl;have hbt:=zF hA.hb;have hwt:=zF hA.hw;have AT0:=Lib.hid hA;clear hA ok;go_enter Tryz.func132,Tryz.ntmps132;go_wp2;go_loopw [7] (fun x wr=> ∃k:Nat,f≤k∧k≤t∧x=.int .i64 k∧Hid (ArAt wr b wb lb (A.claim f k))∧Hid (blk wr w.heap.size=some (.cells #[.int .i64 0,.int .i64 0] 150 (0,0)))∧Fr [lb] w wr) (fun x _=>t-(intOf x).toNat)
 case atStart=>
  refine⟨f,by omega,by omega,rfl, ?_, ?_,(Fr.refl _ _).alloc _⟩
  ·refine Lib.hid ?_;have e:A.claim f f=A:=by simp[Ar.claim,claimed_self]
   rw[e];exact AT0.out.fr ((Fr.refl [] _).alloc _) (by simp) (by simp) (by simp)
  ·exact Lib.hid (by simp[zB])
 case round=>
  obtain⟨k,hk1,hk2,rfl,hA,hB,hF⟩:=hrel;have c1:=hA.out.c1;rw[show(A.claim f k).lines.length=m*16 from by simp[Ar.claim,zo,hll.out]]at c1;by_cases hlt:k<t
  ·have hm:k<A.lines.length:=by rw[hll.out];omega
   have hc:=hA.out.taken (i:=k) (by simp[Ar.claim,zo];exact hm);have hfl:=hA.out.fl (k*2);clear hm;go_wp2;go_roundw
   case rel=>
    refine⟨k+1,by omega,by omega,by go_num,Lib.hid (hA.out.claimStep hk1 (by rw[hll.out];omega)),Lib.hid ?_,hF.setCell (by simp) _⟩;rw[zD,if_neg (by omega)];exact hB.out
   case measure=>simp[intOf];omega
  ·have hkt:k=t:=by omega
   subst hkt;have r0:=zA hB.out (i:=0) rfl;have r1:=zA hB.out (i:=1) rfl;have f0:=zE hB.out (i:=0);have f1:=zE hB.out (i:=1);go_wp2;refine bodyPost_ret (v:=.agg #[.int .i64 ((f:Int)*16),.int .i64 ((k:Int)*16)]) (by simp[results,Tryz.results132,go_sem,r0,r1]) rfl ⟨rfl, ?_, ?_⟩
   ·exact hA.out.fr (((Fr.refl [w.heap.size] wr).setCell (by simp) _).setCell (by simp) _) (by simp;omega) (by simp;omega) (by simp;omega)
   ·exact(hF.setCell (by simp) _).setCell (by simp) _
theorem free1_c(w:World)(x y:Bool):Calls Tryz.prog 119 #[.agg #[.bool x,.bool y]] w fun e w'=>e=.returned (.bool !x)∧w'=w.alloc (.cells #[.bool x,.bool y] 164):=by
 go_enter Tryz.func119,Tryz.ntmps119;go_wp2;go_ret;exact⟨rfl,rfl⟩
def freeIn(l:List (Bool×Bool))(o n:Nat):Nat:=((l.drop o).take n).countP fun x=> !x.1
theorem freeIn_zero(l:List (Bool×Bool))(o:Nat):freeIn l o 0=0:=by simp[freeIn]
theorem freeIn_step(l:List (Bool×Bool))(o k:Nat)(h:o+k<l.length):freeIn l o (k+1)=freeIn l o k+if tk l (o+k)=true then 0 else 1:=by
 unfold freeIn;have:(l.drop o)[k]? =some l[o+k]:=by rw[List.getElem?_drop];simp[h]
 rw[List.take_add_one,this];simp only[Option.toList_some,List.countP_append,List.countP_singleton,tk,List.getElem?_eq_getElem h,Option.getD_some];cases l[o+k].1<;>rfl
theorem freeIn_le(l:List (Bool×Bool))(o k:Nat):freeIn l o k≤k:=by
 unfold freeIn;have h1:=List.countP_le_length (p:=fun x:Bool×Bool=> !x.1) (l:=(l.drop o).take k);have h2:((l.drop o).take k).length≤k:=List.length_take_le _ _;omega
theorem count_c(w:World){m:Nat}(hA:ArAt w b wb lb A)(ok:A.Ok m)(o n cap:Nat)(hn:o+n≤m*16):
 Calls Tryz.prog 118 #[.slice (some ⟨lb,o*2,none⟩) n cap,.func (.func 119) #[] #[]] w fun e w'=>e=.returned (.int .i64 (freeIn A.lines o n))∧Fr [] w w':=by
 have h1:=ok.m1;have h2:=ok.m2;have hll:=Lib.hid ok.ll;have AT:=Lib.hid hA;have FZ:=Lib.hid (freeIn_zero A.lines o);clear hA ok;go_enter Tryz.func118,Tryz.ntmps118;go_wp2;go_loopw [5,10] (fun c x wr=> ∃k:Nat,k≤n∧x=.int .i64 k∧c=.int .i64 (freeIn A.lines o k)∧Fr [] w wr) (fun _ x _=>n-(intOf x).toNat)
 case atStart=>exact⟨0,by omega,rfl,by rw[FZ.out];rfl,Fr.refl _ _⟩
 case round=>
  obtain⟨k,hk,rfl,rfl,hF⟩:=hrel;have hA:=AT.out.fr hF (by simp) (by simp) (by simp);have hle:=freeIn_le A.lines o k;by_cases hlt:k<n
  ·have c0:=hA.taken (i:=o+k) (by rw[hll.out];omega);have c1:=hA.marked (i:=o+k) (by rw[hll.out];omega);have hs:=Lib.hid (freeIn_step A.lines o k (by rw[hll.out];omega));rw[show(o+k)*2=o*2+k*2 from by omega]at c0 c1;clear hA;cases ht:tk A.lines (o+k)with
   |false=>
    rw[ht]at c0 hs;clear ht;go_wp2_with (go_at_call 119;refine(free1_c _ _ _).mono ?_;rintro e w' ⟨rfl,rfl⟩);go_roundw
    case rel=>exact⟨k+1,by omega,by go_num,by rw[hs.out];go_num,(hF.alloc _).alloc _⟩
    case measure=>simp[intOf];omega
   |true=>
    rw[ht]at c0 hs;clear ht;go_wp2_with (go_at_call 119;refine(free1_c _ _ _).mono ?_;rintro e w' ⟨rfl,rfl⟩);go_roundw
    case rel=>exact⟨k+1,by omega,by go_num,by rw[hs.out];go_num,(hF.alloc _).alloc _⟩
    case measure=>simp[intOf];omega
  ·have hkn:k=n:=by omega
   subst hkn;clear hA;go_wp2;go_ret;exact⟨rfl,hF⟩
def freeOf(l:List (Bool×Bool))(q:Nat):Nat:=freeIn l (q*16) 16
theorem free_yes(w:World){m:Nat}(hA:ArAt w b wb lb A)(ok:A.Ok m)(q:Nat)(hq:q<m):
 Calls Tryz.prog 106 #[.pointer (some ⟨b,0,none⟩),.int .i64 (q:Int)] w fun e w'=>e=.returned (.int .i64 (freeOf A.lines q))∧Fr [] w w':=by
 have h1:=ok.m1;have h2:=ok.m2;have c1:=hA.c1;rw[ok.ll]at c1;have CB:=Lib.hid (blocks_c w hA ok);have CC:=Lib.hid (count_c w hA ok (q*16) ((q+1)*16-q*16) (m*16-q*16) (by omega));have E16:Hid ((q+1)*16-q*16=16):=Lib.hid (by omega);clear hA ok;go_enter Tryz.func106,Tryz.ntmps106;go_wp2_with (first|(go_at_call 83;refine CB.out.mono ?_;rintro e w' ⟨rfl,rfl⟩)|(go_at_call 118;refine CC.out.mono ?_;rintro e w' ⟨rfl,hF⟩));go_ret;exact⟨ret_int (by rw[E16.out];rfl),hF⟩
end
end Go.Proofs.YtghkahcogphomaaGreat
