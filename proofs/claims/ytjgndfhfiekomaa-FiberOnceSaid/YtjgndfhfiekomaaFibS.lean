/- Fibers: a space without a stack; a stack made. -/
import Derived.Test.YtjgndfhfiekomaaFibM
namespace Go.Proofs.Ytjgndfhfiekomaa
open Go.ChangeShapes Go.WideShapes Go.RowKit
variable {w0 w w1 w' : World} {c : Sk} {A A' : Ar} {top : Int} {last : Value}
structure SpAt (w : World) (c : Sk) (A : Ar) : Prop where
  s : blk w c.sb = some (.cells #[.pointer (some ⟨c.hb, 0, none⟩), c.nv, c.mv] 150 (0, 0))
  h : HeAt w c.hb c.b c.wb c.lb A
  ok : A.Ok c.m
  wd : A.Wd
  ap : [c.sb, c.hb, c.b, c.wb, c.lb].Nodup
def Sk.low (c : Sk) : List Nat := [c.b, c.wb, c.lb]
structure Sp (w0 w : World) (c : Sk) (A : Ar) : Prop where
  a : SpAt w c A
  fr : Fr c.low w0 w
theorem Sp.keep (h : Sp w0 w c A) (hF : Fr [] w w') : Sp w0 w' c A := ⟨⟨hF.at h.a.s (by simp), h.a.h.keep hF, h.a.ok, h.a.wd, h.a.ap⟩, h.fr.trans hF (by simp)⟩
theorem Sp.alloc (h : Sp w0 w c A) (o : Obj) : Sp w0 (w.alloc o) c A := h.keep ((Fr.refl _ _).alloc _)
theorem Sp.drew (h : Sp w0 w c A) : Sp w0 w.drew c A := h.keep (Fr.refl _ _).drew
theorem Sp.base (h : Sp w0 w c A) : Sp w w c A := ⟨h.a, Fr.refl _ _⟩
theorem Sp.join (h : Sp w0 w c A) (h2 : Sp w w1 c A') : Sp w0 w1 c A' := ⟨h2.a, h.fr.same h2.fr⟩
theorem Sp.heap (h : Sp w0 w c A) (hF : Fr [c.b, c.wb, c.lb] w w') (he : HeAt w' c.hb c.b c.wb c.lb A') (ok : A'.Ok c.m) (wd : A'.Wd) : Sp w0 w' c A' := by
  have ap := h.a.ap
  simp only [List.nodup_cons, List.mem_cons, List.not_mem_nil, or_false, not_or] at ap
  obtain ⟨⟨b3, b4, b5, b6⟩, _⟩ := ap
  refine ⟨⟨hF.at h.a.s ?_, he, ok, wd, h.a.ap⟩, h.fr.same hF⟩
  simp only [List.mem_cons, List.not_mem_nil, or_false, not_or]; exact ⟨b4, b5, b6⟩
theorem Sp.s0 (h : Sp w0 w c A) : w.cell? ⟨c.sb, 0, none⟩ = some (.pointer (some ⟨c.hb, 0, none⟩)) := cell_of h.a.s rfl
theorem oset_p (h : Sp w0 w c A) (x i v : Int) (hx : W64 x) (hi : I64 i) (hv : W64 v) : Calls Try.prog 19 #[.pointer (some ⟨c.hb, 0, none⟩), .int .u64 x, .int .i64 i, .int .u64 v] w fun e w' => (∃ z, e = .returned (.int .i64 z)) ∧ Sp w0 w' c (stF A c.m x i v) := by
  refine (oset_c w h.a.h h.a.ok h.a.wd x i v hx.1 hx.2 hi).mono ?_
  rintro e w' ⟨rfl, hH, hF⟩
  exact ⟨⟨_, rfl⟩, h.heap hF hH (setF_ok h.a.ok x i v) (wd_setF h.a.wd c.m x i hv)⟩
theorem omake_p (h : Sp w0 w c A) (kind n : Int) : Calls Try.prog 15 #[.pointer (some ⟨c.hb, 0, none⟩), .int .i64 kind, .int .i64 n] w fun e w' => e = .returned (wordVal (makeF A c.m kind n).2) ∧ Sp w0 w' c (makeF A c.m kind n).1 := by
  refine (omake_c w h.a.h h.a.ok kind n).mono ?_
  rintro e w' ⟨rfl, hH, hF⟩
  exact ⟨rfl, h.heap hF hH (makeF_ok h.a.ok kind n) (makeF_wd h.a.wd _ _ _).1⟩
def FpAt (w : World) (c : Sk) (a : Option Addr) (ws : List Int) : Prop := ws = [] ∨ ∃ b o, a = some ⟨b, o, none⟩ ∧ b < w.heap.size ∧ b ∉ c.low ∧ ∀ i, i < ws.length → w.cell? ⟨b, o + i, none⟩ = some (.int .u64 (ws[i]?.getD 0))
theorem FpAt.keep {a : Option Addr} {ws : List Int} (h : FpAt w c a ws) (hF : Fr c.low w w') : FpAt w' c a ws := by
  rcases h with h | ⟨b, o, h1, h2, h3, h4⟩
  · exact .inl h
  · exact .inr ⟨b, o, h1, Nat.lt_of_lt_of_le h2 hF.size, h3, fun i hi => by
      rw [← h4 i hi]
      exact World.cell?_of_block (w := w) (hF.block b h2 h3)⟩
theorem vraw_p (h : Sp w0 w c A) (kind : Int) (ws : List Int) (hws : ∀ x, x ∈ ws → W64 x) (a : Option Addr) (n cap : Nat) (hf : FpAt w c a ws) (hn : ws.length = n) (hns : n ≤ 1000) :
    Calls Try.prog 144 #[.pointer (some ⟨c.sb, 0, none⟩), .int .i64 kind, .slice a n cap] w fun e w' => e = .returned (wordVal (objF A c.m kind ws).2) ∧ Sp w0 w' c (objF A c.m kind ws).1 := by
  have s0 := h.s0
  have CM := Lib.hid (omake_p h.base kind (n : Int))
  have WX := Lib.hid (makeF_wd h.a.wd c.m kind (n : Int)).2
  have H := Lib.hid h
  have HF := Lib.hid hf
  have HN := Lib.hid hn
  have HW := Lib.hid hws
  have OB : Hid (objF A c.m kind ws = match (makeF A c.m kind n).2 with | none => ((makeF A c.m kind n).1, none) | some x => (setN (makeF A c.m kind n).1 c.m x ws n, some x)) := Lib.hid (by unfold objF; rw [hn]; rfl)
  clear h hf hn hws
  cases ho : (makeF A c.m kind n).2 with
  | none =>
    rw [ho] at CM OB
    rw [OB.out]
    clear ho OB WX
    go_enter Try.func144, Try.ntmps144
    go_wp2_with fail
    refine CM.out.mono ?_
    rintro e w1 ⟨rfl, h1⟩
    simp only [wordVal]
    go_wp2
    go_ret2
    exact ⟨rfl, H.out.join h1⟩
  | some x =>
    rw [ho] at CM OB
    rw [OB.out]
    have hx := Lib.hid (WX.out x ho)
    clear ho OB WX
    generalize (makeF A c.m kind (n : Int)).1 = A1 at *
    go_enter Try.func144, Try.ntmps144
    go_wp2_with fail
    refine CM.out.mono ?_
    rintro e w1 ⟨rfl, h1⟩
    have h1 : Hid (Sp w w1 c (setN A1 c.m x ws 0)) := Lib.hid h1
    simp only [wordVal]
    clear CM
    go_wp2_with fail
    go_loopw [27] (fun y wr => ∃ k : Nat, k ≤ n ∧ y = .int .i64 (k : Int) ∧ Hid (Sp w wr c (setN A1 c.m x ws k))) (fun y _ => n - (intOf y).toNat)
    case atStart => exact ⟨0, Nat.zero_le _, rfl, h1⟩
    case round =>
      obtain ⟨k, hk, rfl, hS⟩ := hrel
      clear h1
      by_cases hlt : k < n
      · have hr := HF.out.keep hS.out.fr
        rcases hr with hr | ⟨b, o, rfl, _, _, hb⟩
        · have := HN.out; rw [hr] at this; simp at this; omega
        have d0 := hb k (by rw [HN.out]; exact hlt)
        have s1 := hS.out.s0
        have CS := Lib.hid (oset_p hS.out x (k : Int) (ws[k]?.getD 0) hx.out (I64.of (by omega)) (w64_nth HW.out k))
        have FIN : Hid (∀ w2, Sp w w2 c (stF (setN A1 c.m x ws k) c.m x (k : Int) (ws[k]?.getD 0)) → Sp w w2 c (setN A1 c.m x ws (k + 1))) := Lib.hid (fun w2 h => h)
        obtain ⟨y, hy⟩ : ∃ y, y = ws[k]?.getD 0 := ⟨_, rfl⟩
        rw [← hy] at d0 CS FIN
        clear hy hb
        go_wp2_with fail
        refine CS.out.mono ?_
        rintro e w2 ⟨⟨z, rfl⟩, h2⟩
        have h2 := Lib.hid h2
        go_wp2
        go_roundw
        case rel => exact ⟨k + 1, by omega, by go_num, Lib.hid (FIN.out _ h2.out)⟩
        case measure => simp [intOf]; omega
      · have hkn : k = n := by omega
        subst hkn
        go_wp2
        go_ret2
        exact ⟨rfl, H.out.join hS.out⟩
theorem vobject_p (h : Sp w0 w c A) (kind : Int) (hk : kind < 16) (ws : List Int) (hws : ∀ x, x ∈ ws → W64 x) (a : Option Addr) (n cap : Nat) (hf : FpAt w c a ws) (hn : ws.length = n) (hns : n ≤ 1000) :
    Calls Try.prog 106 #[.pointer (some ⟨c.sb, 0, none⟩), .int .i64 kind, .slice a n cap] w fun e w' => e = .returned (wordVal (objF A c.m kind ws).2) ∧ Sp w0 w' c (objF A c.m kind ws).1 := by
  have CR := Lib.hid (vraw_p h kind ws hws a n cap hf hn hns)
  have RW : Hid (∀ w, Calls Try.prog 71 #[.int .i64 kind] w fun e w' => e = .returned (.bool false) ∧ w = w') := Lib.hid (fun w => by
    have := raw_c w kind
    rwa [decide_eq_false (by omega)] at this)
  clear h hws hf hn
  obtain ⟨r, hr⟩ : ∃ r, r = objF A c.m kind ws := ⟨_, rfl⟩
  rw [← hr] at CR ⊢
  obtain ⟨A1, o⟩ := r
  clear hr
  cases o with
  | none =>
    go_enter Try.func106, Try.ntmps106
    go_wp2_with fail
    refine (RW.out _).mono ?_
    rintro e w' ⟨rfl, rfl⟩
    go_wp2_with fail
    refine CR.out.mono ?_
    rintro e w1 ⟨rfl, h1⟩
    simp only [wordVal]
    go_wp2
    go_ret2
    exact ⟨rfl, h1⟩
  | some x =>
    go_enter Try.func106, Try.ntmps106
    go_wp2_with fail
    refine (RW.out _).mono ?_
    rintro e w' ⟨rfl, rfl⟩
    go_wp2_with fail
    refine CR.out.mono ?_
    rintro e w1 ⟨rfl, h1⟩
    simp only [wordVal]
    go_wp2
    go_ret2
    exact ⟨rfl, h1⟩
theorem low_lt (h : Sp w0 w c A) {x : Nat} (hx : x ∈ c.low) : x < w.heap.size := by
  unfold Sk.low at hx
  simp only [List.mem_cons, List.not_mem_nil, or_false] at hx
  rcases hx with rfl | rfl | rfl
  · exact lt_size h.a.h.ar.hb
  · exact lt_size h.a.h.ar.hw
  · exact lt_size h.a.h.ar.hl
theorem fp_new (h : Sp w0 w c A) (ws : List Int) (t : TypeId) (w2 : World) (h2 : blk w2 w.heap.size = some (.cells (ws.map (Value.int .u64)).toArray t (0, 0))) : FpAt w2 c (some ⟨w.heap.size, 0, none⟩) ws :=
  .inr ⟨w.heap.size, 0, rfl, lt_size h2, fun hx => by have := low_lt h hx; omega, fun i hi => by
    rw [Nat.zero_add]
    exact cell_of h2 (by simp [hi])⟩
/-- A stack's block before it has roots. -/
def KbAt (w : World) (c : Sk) : Prop := blk w c.kb = some (.cells #[.pointer (some ⟨c.sb, 0, none⟩), .slice none 0 0, .bool c.rem, .pointer none] 153 (0, 0))
theorem KbAt.cell (h : KbAt w c) : w.cell? ⟨c.kb, 0, none⟩ = some (.pointer (some ⟨c.sb, 0, none⟩)) := cell_of h rfl
theorem vobj4_p (kind a b d e : Int) (hk : kind < 16) (ha : W64 a) (hb : W64 b) (hd : W64 d) (he : W64 e) (h : Sp w0 w c A) : Calls Try.prog 106 #[.pointer (some ⟨c.sb, 0, none⟩), .int .i64 kind, .slice (some ⟨w.heap.size, 0, none⟩) 4 4] (w.alloc (.cells #[.int .u64 a, .int .u64 b, .int .u64 d, .int .u64 e] 37)).drew fun e' w' => e' = .returned (wordVal (objF A c.m kind [a, b, d, e]).2) ∧ Sp w0 w' c (objF A c.m kind [a, b, d, e]).1 :=
  vobject_p (h.alloc _).drew kind hk [a, b, d, e] (by
    intro x hx
    simp at hx
    rcases hx with rfl | rfl | rfl | rfl <;> assumption) _ 4 4 (fp_new h _ 37 _ (by rw [blk_drew, blk_alloc, if_pos rfl]; rfl)) rfl (by omega)
theorem kfiber_p (h : Sp w w c A) (hK : KbAt w c) (hkn : c.kb ∉ c.low) : Calls Try.prog 97 #[.pointer (some ⟨c.kb, 0, none⟩), .int .u64 45, .int .u64 45] w fun e w' => e = .returned (wordVal (fibF A c.m 45 45).2) ∧ Sp w w' c (fibF A c.m 45 45).1 ∧ KbAt w' c := by
  have k0 := hK.cell
  have KE : Hid (∀ w1, Sp w w1 c A → KbAt w1 c) := Lib.hid (fun w1 h1 => h1.fr.at hK hkn)
  have KE2 : Hid (∀ w1 A1, Sp w w1 c A1 → KbAt w1 c) := Lib.hid (fun w1 A1 h1 => h1.fr.at hK hkn)
  have CO : Hid (∀ w1, Sp w w1 c A → _) := Lib.hid (fun w1 h1 => vobj4_p 7 45 45 (smW (-1)) 45 (by omega) w64_45 w64_45 (smW_w _) w64_45 h1)
  have SM : Hid (∀ w, _) := Lib.hid (fun w => small_c (-1) w (by omega) (by omega))
  unfold fibF
  obtain ⟨r, hr⟩ : ∃ r, r = objF A c.m 7 [45, 45, smW (-1), 45] := ⟨_, rfl⟩
  rw [← hr] at CO ⊢
  obtain ⟨A1, o⟩ := r
  clear hr
  generalize smW (-1) = sm at *
  obtain ⟨x, b, hxb⟩ := wordVal_tuple o
  simp only [hxb] at CO ⊢
  clear hxb
  have hd := h.drew
  go_enter Try.func97, Try.ntmps97
  go_wp2
  go_region_held3 (fun w_ => w_.cell? ⟨c.kb, 0, none⟩ = some (.pointer (some ⟨c.sb, 0, none⟩))) (with_reducible first | exact (KE2.out _ _ h9).cell | exact KbAt.cell (KE.out _ h) | exact KbAt.cell (KE.out _ (Sp.drew h)) | exact KbAt.cell (KE.out _ (Sp.drew (Sp.alloc h _))) | exact KbAt.cell (KE.out _ (Sp.alloc h _))) (first | (go_at_call 98; refine Calls.mono (nothing_c _) ?_; rintro e w' ⟨rfl, rfl⟩) | (go_at_call 101; refine Calls.mono (SM.out _) ?_; rintro e w' ⟨rfl, rfl⟩) | (go_at_call 106; refine Calls.mono (CO.out _ h) ?_; rintro e w9 ⟨rfl, h9⟩))
  all_goals
    go_wp2
    go_ret2
    exact ⟨rfl, h9, KE2.out _ _ h9⟩
end Go.Proofs.Ytjgndfhfiekomaa
