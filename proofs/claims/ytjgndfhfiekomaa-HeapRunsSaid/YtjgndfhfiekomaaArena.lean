/- The arena: what each of its functions does, for every arena. -/
import Derived.Test.YtjgndfhfiekomaaBase
import Derived.OwnWalk
import Derived.RegionTactic
import Derived.BigRegion
set_option linter.all false
namespace Go.Proofs.Ytjgndfhfiekomaa
open Go.ChangeShapes Go.WideShapes Go.RowKit

/-- What an arena is, on paper. -/
structure Ar where
  words : List Int
  lines : List (Bool × Bool)
  sf : Nat
  st : Nat
  gf : Nat
  gt : Nat
  cf : Nat
  ct : Nat
  next : Nat

def Ar.cells (A : Ar) (wb lb : Nat) : Array Value :=
  #[.slice (some ⟨wb, 0, none⟩) A.words.length A.words.length, .slice (some ⟨lb, 0, none⟩) A.lines.length A.lines.length, .int .i64 A.sf, .int .i64 A.st, .int .i64 A.gf, .int .i64 A.gt, .int .i64 A.cf, .int .i64 A.ct, .int .i64 A.next]
def wordCells (l : List Int) : Array Value := (l.map (Value.int .u64)).toArray
def lineCells (l : List (Bool × Bool)) : Array Value := (l.flatMap fun x => [.bool x.1, .bool x.2]).toArray
structure ArAt (w : World) (b wb lb : Nat) (A : Ar) : Prop where
  hb : blk w b = some (.cells (A.cells wb lb) 169 (0, 0))
  hw : blk w wb = some (.cells (wordCells A.words) 37 (0, 0))
  hl : blk w lb = some (.cells (lineCells A.lines) 181 (0, 0))
  n1 : b ≠ wb
  n2 : b ≠ lb
  n3 : wb ≠ lb
def zeros (n : Nat) : List Int := List.replicate n 0
def clear (n : Nat) : List (Bool × Bool) := List.replicate n (false, false)
variable {w : World} {b wb lb : Nat} {A : Ar}
theorem ArAt.c0 (h : ArAt w b wb lb A) : w.cell? ⟨b, 0, none⟩ = some (.slice (some ⟨wb, 0, none⟩) A.words.length A.words.length) := cell_of h.hb rfl
theorem ArAt.c1 (h : ArAt w b wb lb A) : w.cell? ⟨b, 1, none⟩ = some (.slice (some ⟨lb, 0, none⟩) A.lines.length A.lines.length) := cell_of h.hb rfl
theorem ArAt.c2 (h : ArAt w b wb lb A) : w.cell? ⟨b, 2, none⟩ = some (.int .i64 A.sf) := cell_of h.hb rfl
theorem ArAt.c3 (h : ArAt w b wb lb A) : w.cell? ⟨b, 3, none⟩ = some (.int .i64 A.st) := cell_of h.hb rfl
theorem ArAt.c4 (h : ArAt w b wb lb A) : w.cell? ⟨b, 4, none⟩ = some (.int .i64 A.gf) := cell_of h.hb rfl
theorem ArAt.c5 (h : ArAt w b wb lb A) : w.cell? ⟨b, 5, none⟩ = some (.int .i64 A.gt) := cell_of h.hb rfl
theorem ArAt.c6 (h : ArAt w b wb lb A) : w.cell? ⟨b, 6, none⟩ = some (.int .i64 A.cf) := cell_of h.hb rfl
theorem ArAt.c7 (h : ArAt w b wb lb A) : w.cell? ⟨b, 7, none⟩ = some (.int .i64 A.ct) := cell_of h.hb rfl
theorem ArAt.c8 (h : ArAt w b wb lb A) : w.cell? ⟨b, 8, none⟩ = some (.int .i64 A.next) := cell_of h.hb rfl
theorem ArAt.fb (h : ArAt w b wb lb A) (i : Nat) : w.frozen? ⟨b, i, none⟩ = false := free_of h.hb
theorem ArAt.fw (h : ArAt w b wb lb A) (i : Nat) : w.frozen? ⟨wb, i, none⟩ = false := free_of h.hw
theorem ArAt.fl (h : ArAt w b wb lb A) (i : Nat) : w.frozen? ⟨lb, i, none⟩ = false := free_of h.hl
theorem wordCells_get (l : List Int) (i : Nat) : (wordCells l)[i]? = (l[i]?).map (Value.int .u64) := by simp [wordCells]
theorem ArAt.word (h : ArAt w b wb lb A) {i : Nat} (hi : i < A.words.length) : w.cell? ⟨wb, i, none⟩ = some (.int .u64 (A.words[i]?.getD 0)) :=
  cell_of h.hw (by rw [wordCells_get]; simp [hi])
theorem lineCells_get' (l : List (Bool × Bool)) (i : Nat) : (l.flatMap fun x => [Value.bool x.1, Value.bool x.2])[i]? = (l[i / 2]?).map fun x => if i % 2 = 0 then .bool x.1 else .bool x.2 := by
  induction l generalizing i with
  | nil => simp
  | cons x l ih =>
    match i with
    | 0 => simp
    | 1 => simp
    | i + 2 => simp [ih i, Nat.add_div_right]
theorem lineCells_get (l : List (Bool × Bool)) (i : Nat) : (lineCells l)[i]? = (l[i / 2]?).map fun x => if i % 2 = 0 then .bool x.1 else .bool x.2 := by
  simp only [lineCells, List.getElem?_toArray]; exact lineCells_get' l i
/-- Is a line taken? marked? -/
def tk (l : List (Bool × Bool)) (i : Nat) : Bool := (l[i]?.getD (true, true)).1
def mk' (l : List (Bool × Bool)) (i : Nat) : Bool := (l[i]?.getD (true, true)).2
theorem ArAt.taken (h : ArAt w b wb lb A) {i : Nat} (hi : i < A.lines.length) : w.cell? ⟨lb, i * 2, none⟩ = some (.bool (tk A.lines i)) :=
  cell_of h.hl (by rw [lineCells_get]; simp [hi, tk])
theorem ArAt.marked (h : ArAt w b wb lb A) {i : Nat} (hi : i < A.lines.length) : w.cell? ⟨lb, i * 2 + 1, none⟩ = some (.bool (mk' A.lines i)) :=
  cell_of h.hl (by rw [lineCells_get]; have : (i * 2 + 1) / 2 = i := by omega
                   simp [hi, mk', this])
theorem info_word : (Try.prog.info? 37).map (fun i => (i.zero, i.size, i.bytes)) = some (some (.int .u64 0), 1, 8) := by kernel_rfl
theorem info_line : (Try.prog.info? 181).map (fun i => (i.zero, i.size, i.bytes)) = some (some (.agg #[.bool false, .bool false]), 2, 2) := by kernel_rfl
theorem made_words (n : Nat) : madeCells #[.int .u64 0] n = wordCells (zeros n) := by
  apply Array.ext_getElem?
  intro i
  by_cases hi : i < n <;> simp [madeCells, wordCells, zeros, hi, Nat.mod_one]
theorem made_lines (n : Nat) : madeCells #[.bool false, .bool false] (n * 2) = lineCells (clear n) := by
  apply Array.ext_getElem?
  intro i
  rw [lineCells_get]
  by_cases hi : i < n * 2
  · have h2 : i / 2 < n := by omega
    rcases Nat.mod_two_eq_zero_or_one i with h | h <;> simp [madeCells, clear, hi, h2, h]
  · have h2 : ¬ i / 2 < n := by omega
    simp [madeCells, clear, hi, h2]
theorem run_words (w : World) (n : Nat) (h : n ≤ 1048576) :
    (Instr.makeSlice 26 (.int .i64 (n : Int)) (.int .i64 (n : Int))).run Try.prog w = .ok (.slice (some ⟨w.heap.size, 0, none⟩) n n) (w.alloc (.cells (wordCells (zeros n)) 37)) := by
  obtain ⟨i0, hi, hz0, hz1, hz2⟩ := info_parts info_word
  have := run_make (P := Try.prog) w 26 37 i0 (.int .u64 0) Try.underlying26 hi hz0 .i64 .i64 (n : Int) n (by omega) (by omega) (by rw [hz2]; omega) (by omega)
  rw [this, hz1]
  simp only [Int.toNat_natCast, Nat.mul_one]
  rw [show (Value.int IntKind.u64 0).cells = #[.int .u64 0] from rfl, made_words]
theorem run_lines (w : World) (n : Nat) (h : n ≤ 65536) :
    (Instr.makeSlice 165 (.int .i64 (n : Int)) (.int .i64 (n : Int))).run Try.prog w = .ok (.slice (some ⟨w.heap.size, 0, none⟩) n n) (w.alloc (.cells (lineCells (clear n)) 181)) := by
  obtain ⟨i0, hi, hz0, hz1, hz2⟩ := info_parts info_line
  have := run_make (P := Try.prog) w 165 181 i0 (.agg #[.bool false, .bool false]) Try.underlying165 hi hz0 .i64 .i64 (n : Int) n (by omega) (by omega) (by rw [hz2]; omega) (by omega)
  rw [this, hz1]
  simp only [Int.toNat_natCast]
  rw [show (Value.agg #[.bool false, .bool false]).cells = #[.bool false, .bool false] from rfl, made_lines]
def Ar.new (m : Nat) : Ar := ⟨zeros (m * 256), clear (m * 16), 0, 0, 0, 0, 0, 0, 0⟩
def NewAr (m : Nat) (w : World) (e : Ending) (w' : World) : Prop :=
  ∃ b wb lb, e = .returned (.pointer (some ⟨b, 0, none⟩)) ∧ ArAt w' b wb lb (Ar.new m) ∧ Fr [] w w' ∧ w.heap.size ≤ b ∧ w.heap.size ≤ wb ∧ w.heap.size ≤ lb
theorem newAr_mk {m : Nat} {w w' : World} {b wb lb : Nat} (h : ArAt w' b wb lb (Ar.new m)) (hf : Fr [] w w') (h1 : w.heap.size ≤ b) (h2 : w.heap.size ≤ wb) (h3 : w.heap.size ≤ lb) :
    NewAr m w (.returned (.pointer (some ⟨b, 0, none⟩))) w' := ⟨b, wb, lb, rfl, h, hf, h1, h2, h3⟩
theorem newAr_one (m : Nat) (w : World) :
    NewAr m w (.returned (.pointer (some ⟨w.heap.size + 2, 0, none⟩))) (((w.alloc (.cells (wordCells (zeros (m * 256))) 37)).alloc (.cells (lineCells (clear (m * 16))) 181)).alloc (.cells ((Ar.new m).cells w.heap.size (w.heap.size + 1)) 169)).drew := by
  refine newAr_mk (wb := w.heap.size) (lb := w.heap.size + 1) ⟨?_, ?_, ?_, by omega, by omega, by omega⟩ ((((Fr.refl _ _).alloc _).alloc _).alloc _).drew (by omega) (by omega) (by omega) <;> simp [blk_drew, blk_alloc, Ar.new] <;> omega
theorem newAr_two (m : Nat) (w : World) :
    NewAr m w (.returned (.pointer (some ⟨w.heap.size + 2, 0, none⟩))) (((w.alloc (.cells (lineCells (clear (m * 16))) 181)).alloc (.cells (wordCells (zeros (m * 256))) 37)).alloc (.cells ((Ar.new m).cells (w.heap.size + 1) w.heap.size) 169)).drew := by
  refine newAr_mk (wb := w.heap.size + 1) (lb := w.heap.size) ⟨?_, ?_, ?_, by omega, by omega, by omega⟩ ((((Fr.refl _ _).alloc _).alloc _).alloc _).drew (by omega) (by omega) (by omega) <;> simp [blk_drew, blk_alloc, Ar.new] <;> omega
theorem len_zeros (n : Nat) : (zeros n).length = n := by simp [zeros]
theorem len_clear (n : Nat) : (clear n).length = n := by simp [clear]
theorem new_mid (m : Nat) (w : World) (h0 : 2 ≤ m) (h1 : m ≤ 4096) :
    Calls Try.prog 65 #[.int .i64 (m : Int)] w (NewAr m w) := by
  have e1 : ∀ w, (Instr.makeSlice 26 (.int .i64 ((m : Int) * 256)) (.int .i64 ((m : Int) * 256))).run Try.prog w = .ok (.slice (some ⟨w.heap.size, 0, none⟩) (m * 256) (m * 256)) (w.alloc (.cells (wordCells (zeros (m * 256))) 37)) :=
    fun w => by have := run_words w (m * 256) (by omega); rw [← this]; simp
  have e2 : ∀ w, (Instr.makeSlice 165 (.int .i64 ((m : Int) * 16)) (.int .i64 ((m : Int) * 16))).run Try.prog w = .ok (.slice (some ⟨w.heap.size, 0, none⟩) (m * 16) (m * 16)) (w.alloc (.cells (lineCells (clear (m * 16))) 181)) :=
    fun w => by have := run_lines w (m * 16) (by omega); rw [← this]; simp
  have n1 := newAr_one m w
  have n2 := newAr_two m w
  simp only [Ar.new, Ar.cells, len_zeros, len_clear] at n1 n2
  have N1 := Lib.hid n1
  have N2 := Lib.hid n2
  clear n1 n2
  go_enter Try.func65, Try.ntmps65
  go_wp2
  go_region
  all_goals
    go_wp2
    go_ret
    first | exact N1.out | exact N2.out
theorem new_low (n : Int) (w : World) (h0 : n ≤ 1) :
    Calls Try.prog 65 #[.int .i64 n] w (NewAr 1 w) := by
  have e1 : ∀ w, (Instr.makeSlice 26 (.int .i64 256) (.int .i64 256)).run Try.prog w = .ok (.slice (some ⟨w.heap.size, 0, none⟩) 256 256) (w.alloc (.cells (wordCells (zeros 256)) 37)) :=
    fun w => run_words w 256 (by omega)
  have e2 : ∀ w, (Instr.makeSlice 165 (.int .i64 16) (.int .i64 16)).run Try.prog w = .ok (.slice (some ⟨w.heap.size, 0, none⟩) 16 16) (w.alloc (.cells (lineCells (clear 16)) 181)) :=
    fun w => run_lines w 16 (by omega)
  have n1 := newAr_one 1 w
  have n2 := newAr_two 1 w
  simp only [Ar.new, Ar.cells, len_zeros, len_clear] at n1 n2
  have N1 := Lib.hid n1
  have N2 := Lib.hid n2
  clear n1 n2
  go_enter Try.func65, Try.ntmps65
  go_wp2
  go_region
  all_goals
    go_wp2
    go_ret
    first | exact N1.out | exact N2.out
theorem new_high (n : Int) (w : World) (h0 : 4096 < n) :
    Calls Try.prog 65 #[.int .i64 n] w (NewAr 4096 w) := by
  have e1 : ∀ w, (Instr.makeSlice 26 (.int .i64 1048576) (.int .i64 1048576)).run Try.prog w = .ok (.slice (some ⟨w.heap.size, 0, none⟩) 1048576 1048576) (w.alloc (.cells (wordCells (zeros 1048576)) 37)) :=
    fun w => run_words w 1048576 (by omega)
  have e2 : ∀ w, (Instr.makeSlice 165 (.int .i64 65536) (.int .i64 65536)).run Try.prog w = .ok (.slice (some ⟨w.heap.size, 0, none⟩) 65536 65536) (w.alloc (.cells (lineCells (clear 65536)) 181)) :=
    fun w => run_lines w 65536 (by omega)
  have n1 := newAr_one 4096 w
  have n2 := newAr_two 4096 w
  simp only [Ar.new, Ar.cells, len_zeros, len_clear] at n1 n2
  have N1 := Lib.hid n1
  have N2 := Lib.hid n2
  clear n1 n2
  go_enter Try.func65, Try.ntmps65
  go_wp2
  go_region
  all_goals
    go_wp2
    go_ret
    first | exact N1.out | exact N2.out
def blocksOf (n : Int) : Nat := if n ≤ 1 then 1 else if 4096 < n then 4096 else n.toNat
theorem new_c (n : Int) (w : World) : Calls Try.prog 65 #[.int .i64 n] w (NewAr (blocksOf n) w) := by
  unfold blocksOf
  by_cases a : n ≤ 1
  · rw [if_pos a]; exact new_low n w a
  · rw [if_neg a]
    by_cases b : 4096 < n
    · rw [if_pos b]; exact new_high n w b
    · rw [if_neg b]
      have := new_mid n.toNat w (by omega) (by omega)
      rwa [show ((n.toNat : Nat) : Int) = n from by omega] at this
/-- So many words and lines; no number wraps. -/
structure Ar.Ok (A : Ar) (m : Nat) : Prop where
  m1 : 1 ≤ m
  m2 : m ≤ 4096
  wl : A.words.length = m * 256
  ll : A.lines.length = m * 16
  s1 : A.sf ≤ A.st
  s2 : A.st ≤ m * 256
  g1 : A.gf ≤ A.gt
  g2 : A.gt ≤ m * 256
  c1 : A.cf ≤ A.ct
  c2 : A.ct ≤ m * 256
  x1 : A.next ≤ m * 16
theorem Ar.new_ok (m : Nat) (h1 : 1 ≤ m) (h2 : m ≤ 4096) : (Ar.new m).Ok m :=
  ⟨h1, h2, by simp [Ar.new, len_zeros], by simp [Ar.new, len_clear], by simp [Ar.new], by simp [Ar.new], by simp [Ar.new], by simp [Ar.new], by simp [Ar.new], by simp [Ar.new], by simp [Ar.new]⟩
/-- A store into one of the arena's own cells. -/
theorem ArAt.field (hA : ArAt w b wb lb A) (A' : Ar) (i : Nat) (v : Value) (h : (A.cells wb lb).setIfInBounds i v = A'.cells wb lb) (h1 : A'.words = A.words) (h2 : A'.lines = A.lines) : ArAt (w.setCell ⟨b, i, none⟩ v) b wb lb A' := by
  obtain ⟨hb, hw, hl, n1, n2, n3⟩ := hA
  refine ⟨?_, ?_, ?_, n1, n2, n3⟩
  · rw [blk_set, if_pos rfl, hb, ← h]; rfl
  · rw [blk_set, if_neg (Ne.symm n1), hw, h1]
  · rw [blk_set, if_neg (Ne.symm n2), hl, h2]
theorem ArAt.fr {S : List Nat} {w' : World} (h : ArAt w b wb lb A) (hf : Fr S w w') (h1 : b ∉ S) (h2 : wb ∉ S) (h3 : lb ∉ S) : ArAt w' b wb lb A :=
  ⟨hf.at h.hb h1, hf.at h.hw h2, hf.at h.hl h3, h.n1, h.n2, h.n3⟩
theorem blocks_c (w : World) {m : Nat} (hA : ArAt w b wb lb A) (ok : A.Ok m) :
    Calls Try.prog 84 #[.pointer (some ⟨b, 0, none⟩)] w fun e w' => e = .returned (.int .i64 m) ∧ w = w' := by
  have c0 := hA.c0
  rw [ok.wl] at c0
  have h1 := ok.m1
  have h2 := ok.m2
  go_enter Try.func84, Try.ntmps84
  go_wp2
  go_ret
  exact ⟨ret_int (by omega), rfl⟩
def Ar.get (A : Ar) (i : Int) : Int := if i < 0 then 0 else A.words[i.toNat]?.getD 0
theorem get_yes (w : World) {m : Nat} (hA : ArAt w b wb lb A) (ok : A.Ok m) (i : Nat) (hi : i < m * 256) :
    Calls Try.prog 75 #[.pointer (some ⟨b, 0, none⟩), .int .i64 (i : Int)] w fun e w' => e = .returned (.tuple #[.int .u64 (A.words[i]?.getD 0), .int .i64 0]) ∧ w = w' := by
  have c0 := hA.c0
  have cw := hA.word (i := i) (by rw [ok.wl]; exact hi)
  rw [ok.wl] at c0
  have h1 := ok.m1
  have h2 := ok.m2
  obtain ⟨x, hx⟩ : ∃ x, x = A.words[i]?.getD 0 := ⟨_, rfl⟩
  rw [← hx] at cw ⊢
  clear hx
  go_enter Try.func75, Try.ntmps75
  go_wp2
  go_ret2
  exact ⟨rfl, rfl⟩
theorem get_no (w : World) {m : Nat} (hA : ArAt w b wb lb A) (ok : A.Ok m) (i : Int) (hi : i < 0 ∨ (m * 256 : Int) ≤ i) :
    Calls Try.prog 75 #[.pointer (some ⟨b, 0, none⟩), .int .i64 i] w fun e w' => e = .returned (.tuple #[.int .u64 0, .int .i64 141]) ∧ w = w' := by
  have c0 := hA.c0
  rw [ok.wl] at c0
  have h1 := ok.m1
  have h2 := ok.m2
  by_cases hn : i < 0
  · go_enter Try.func75, Try.ntmps75
    go_wp2
    go_ret2
    exact ⟨rfl, rfl⟩
  · have hm : (m * 256 : Int) ≤ i := by omega
    clear hi
    go_enter Try.func75, Try.ntmps75
    go_wp2
    go_ret2
    exact ⟨rfl, rfl⟩
def Ar.set (A : Ar) (i : Nat) (v : Int) : Ar := { A with words := A.words.set i v }
theorem ArAt.set (hA : ArAt w b wb lb A) (i : Nat) (v : Int) : ArAt (w.setCell ⟨wb, i, none⟩ (.int .u64 v)) b wb lb (A.set i v) := by
  obtain ⟨hb, hw, hl, n1, n2, n3⟩ := hA
  refine ⟨?_, ?_, ?_, n1, n2, n3⟩
  · rw [blk_set, if_neg n1, hb]; simp [Ar.cells, Ar.set]
  · rw [blk_set, if_pos rfl, hw]; simp [Ar.set, wordCells, setObj]
  · rw [blk_set, if_neg (Ne.symm n3), hl]; rfl
theorem set_yes (w : World) {m : Nat} (hA : ArAt w b wb lb A) (ok : A.Ok m) (i : Nat) (v : Int) (hi : i < m * 256) :
    Calls Try.prog 68 #[.pointer (some ⟨b, 0, none⟩), .int .i64 (i : Int), .int .u64 v] w fun e w' => e = .returned (.int .i64 0) ∧ ArAt w' b wb lb (A.set i v) ∧ Fr [wb] w w' := by
  have H := Lib.hid (hA.set i v)
  have c0 := hA.c0
  have cw := hA.word (i := i) (by rw [ok.wl]; exact hi)
  have fw := hA.fw i
  rw [ok.wl] at c0
  have h1 := ok.m1
  have h2 := ok.m2
  go_enter Try.func68, Try.ntmps68
  go_wp2
  go_ret
  exact ⟨rfl, H.out, (Fr.refl _ _).setCell (by simp) _⟩
theorem set_no (w : World) {m : Nat} (hA : ArAt w b wb lb A) (ok : A.Ok m) (i : Int) (v : Int) (hi : i < 0 ∨ (m * 256 : Int) ≤ i) :
    Calls Try.prog 68 #[.pointer (some ⟨b, 0, none⟩), .int .i64 i, .int .u64 v] w fun e w' => e = .returned (.int .i64 141) ∧ w = w' := by
  have c0 := hA.c0
  rw [ok.wl] at c0
  have h1 := ok.m1
  have h2 := ok.m2
  by_cases hn : i < 0
  · go_enter Try.func68, Try.ntmps68
    go_wp2
    go_ret
    exact ⟨rfl, rfl⟩
  · have hm : (m * 256 : Int) ≤ i := by omega
    clear hi
    go_enter Try.func68, Try.ntmps68
    go_wp2
    go_ret
    exact ⟨rfl, rfl⟩
end Go.Proofs.Ytjgndfhfiekomaa
