/- The texts and numbers of numbers: a part of the walk. No condition. -/
import Derived.Test.YtcjkgnafpkkjmaaGreatDoorQk16
import Derived.Deep.CutBlock
set_option linter.all false
section
namespace Go.Proofs.YtcjkgnafpkkjmaaGreatDoor
open Go.ChangeShapes Go.WideShapes Go.RowKit Go.Shelf
def usN (x ph pl s : Nat) : Nat :=
  if x * ph / 18446744073709551616 / 2 ^ s * 2 ^ s ≠ x * ph / 18446744073709551616 then x * ph / 18446744073709551616 / 2 ^ s / 2 * 2 + 1
  else if 1 < (x * ph % 18446744073709551616 + 18446744073709551616 - x * pl / 18446744073709551616) % 18446744073709551616
    then (x * ph / 18446744073709551616 + 18446744073709551616 - (if x * ph % 18446744073709551616 < x * pl / 18446744073709551616 then 1 else 0)) % 18446744073709551616 / 2 ^ s / 2 * 2 + 1
    else (x * ph / 18446744073709551616 + 18446744073709551616 - (if x * ph % 18446744073709551616 < x * pl / 18446744073709551616 then 1 else 0)) % 18446744073709551616 / 2 ^ s
theorem div_pow3 {a s : Nat} (ha : a < 18446744073709551616) (hs : 3 ≤ s) : a / 2 ^ s < 2305843009213693952 := by
  have h8 : 2 ^ 3 ≤ 2 ^ s := Nat.pow_le_pow_right (by decide) hs
  have : a / 2 ^ s ≤ a / 2 ^ 3 := Nat.div_le_div_left h8 (by decide)
  omega
theorem mulhi_lt {x y : Nat} (hx : x < 18446744073709551616) (hy : y < 18446744073709551616) : x * y / 18446744073709551616 < 18446744073709551616 :=
  (Nat.div_lt_iff_lt_mul (by decide)).2 (Nat.mul_lt_mul'' hx hy)
theorem usN_lt (x ph pl s : Nat) (hx : x < 18446744073709551616) (hp : ph < 18446744073709551616) (hs : 3 ≤ s) : usN x ph pl s < 2305843009213693953 := by
  have h1 := div_pow3 (mulhi_lt hx hp) hs
  have h2 := div_pow3 (Nat.mod_lt (x * ph / 18446744073709551616 + 18446744073709551616 - (if x * ph % 18446744073709551616 < x * pl / 18446744073709551616 then 1 else 0)) (show 0 < 18446744073709551616 by decide)) hs
  unfold usN
  split
  · omega
  · split <;> omega
theorem bool2u_t (w : World) : Calls Tryz.prog 182 #[.bool true] w fun e w' => e = .returned (.int .u64 1) ∧ w = w' := by
  go_enter Tryz.func182, Tryz.ntmps182
  go_wp2
  go_ret
  exact ⟨rfl, rfl⟩
theorem bool2u_f (w : World) : Calls Tryz.prog 182 #[.bool false] w fun e w' => e = .returned (.int .u64 0) ∧ w = w' := by
  go_enter Tryz.func182, Tryz.ntmps182
  go_wp2
  go_ret
  exact ⟨rfl, rfl⟩
theorem or0_64 (y : Nat) (h : y < 18446744073709551616) : bits BinOp.or IntKind.u64 (y : Int) 0 = (y : Int) := by
  show IntKind.u64.wrap ((BitVec.ofInt 64 (y : Int) ||| BitVec.ofInt 64 0).toNat : Int) = _
  rw [BitVec.toNat_or]
  have h1 : (BitVec.ofInt 64 (y : Int)).toNat = y := by
    rw [BitVec.ofInt_natCast, BitVec.toNat_ofNat]; exact Nat.mod_eq_of_lt (by omega)
  have h2 : (BitVec.ofInt 64 (0 : Int)).toNat = 0 := by decide
  rw [h1, h2, Nat.or_zero, IntKind.wrap_u64]
  omega
set_option maxRecDepth 100000 in
set_option maxHeartbeats 1000000 in
theorem uscaleg_c (w : World) (k x ph pl s : Nat) (H : ScAt w k ph pl s) (hs3 : 3 ≤ s) (hs : s < 64) (hx : x < 18446744073709551616) (hp : ph < 18446744073709551616) (hl : pl < 18446744073709551616) :
    Calls Tryz.prog 192 #[.int .u64 (x : Int), .pointer (some ⟨k, 0, none⟩)] w fun e w' => e = .returned (.int .u64 (usN x ph pl s : Int)) ∧ Fr [] w w' := by
  obtain ⟨hi, hhi⟩ : ∃ hi, x * ph / 18446744073709551616 = hi := ⟨_, rfl⟩
  obtain ⟨mid, hmid⟩ : ∃ mid, mid = x * ph % 18446744073709551616 := ⟨_, rfl⟩
  obtain ⟨m2, hm2⟩ : ∃ m2, m2 = x * pl / 18446744073709551616 := ⟨_, rfl⟩
  obtain ⟨u, hu⟩ : ∃ u, u = usN x ph pl s := ⟨_, rfl⟩
  have hhb : hi < 18446744073709551616 := by rw [← hhi]; exact mulhi_lt hx hp
  have hmb : mid < 18446744073709551616 := by rw [hmid]; exact Nat.mod_lt _ (by decide)
  have h2b : m2 < 18446744073709551616 := by rw [hm2]; exact mulhi_lt hx hl
  have q3 := div_pow3 hhb hs3
  by_cases hne : hi / 2 ^ s * 2 ^ s ≠ hi
  · rw [← hu]
    refine (uscale_c w k x ph pl s hi (hi / 2 ^ s) u H hs hx hp hhi rfl hne ?_ (by omega)).mono (by rintro e w' ⟨rfl, rfl⟩; exact ⟨rfl, Fr.refl _ _⟩)
    rw [hu]; unfold usN; rw [hhi, if_pos hne]
  · have CM := Lib.hid (fun w1 => by have := Tryz.bits_Mul64 x ph hx hp w1; rw [hhi, ← hmid] at this; exact this)
    have CL := Lib.hid (fun w1 => by have := Tryz.bits_Mul64 x pl hx hl w1; rw [← hm2] at this; exact this)
    obtain ⟨y2, hy2⟩ : ∃ y2, y2 = x * pl % 18446744073709551616 := ⟨_, rfl⟩
    rw [← hy2] at CL
    have hue : u = if 1 < (mid + 18446744073709551616 - m2) % 18446744073709551616 then (hi + 18446744073709551616 - (if mid < m2 then 1 else 0)) % 18446744073709551616 / 2 ^ s / 2 * 2 + 1 else (hi + 18446744073709551616 - (if mid < m2 then 1 else 0)) % 18446744073709551616 / 2 ^ s := by
      rw [hu]; unfold usN; rw [hhi, if_neg hne, ← hmid, ← hm2]
    have hne' : hi / 2 ^ s * 2 ^ s = hi := by omega
    have c0 := cell_of H (i := 0) rfl
    have c1 := cell_of H (i := 1) rfl
    have c2 := cell_of H (i := 2) rfl
    have kl := lt_size H
    have hand := and63 s hs
    obtain ⟨q, hq⟩ : ∃ q, q = hi / 2 ^ s := ⟨_, rfl⟩
    have hsh : (hi : Int) / 2 ^ s = (q : Int) := by rw [hq]; push_cast; rfl
    have hw2 : IntKind.u64.wrap ((q : Int) * 2 ^ s) = (hi : Int) := by
      rw [show (q : Int) * 2 ^ s = ((q * 2 ^ s : Nat) : Int) by push_cast; rfl, hq, hne']
      exact fw_u64 _ (by omega) (by omega)
    obtain ⟨h2, hh2⟩ : ∃ h2, h2 = (hi + 18446744073709551616 - (if mid < m2 then 1 else 0)) % 18446744073709551616 := ⟨_, rfl⟩
    obtain ⟨dd, hdd⟩ : ∃ dd, dd = (mid + 18446744073709551616 - m2) % 18446744073709551616 := ⟨_, rfl⟩
    rw [← hh2, ← hdd] at hue
    have hh2b : h2 < 18446744073709551616 := by rw [hh2]; exact Nat.mod_lt _ (by decide)
    have hsub1 : mid < m2 → IntKind.u64.wrap ((hi : Int) - 1) = (h2 : Int) := fun c => by
      rw [IntKind.wrap_u64, hh2, if_pos c]; omega
    have hsub0 : ¬ mid < m2 → hi = h2 := fun c => by rw [hh2, if_neg c]; omega
    have hdw : IntKind.u64.wrap ((mid : Int) - (m2 : Int)) = (dd : Int) := by
      rw [IntKind.wrap_u64, hdd]; omega
    obtain ⟨q2, hq2⟩ : ∃ q2, q2 = h2 / 2 ^ s := ⟨_, rfl⟩
    have hsh2 : (h2 : Int) / 2 ^ s = (q2 : Int) := by rw [hq2]; push_cast; rfl
    have q2b := div_pow3 hh2b hs3
    rw [← hq2] at q2b hue
    have hor1 : 1 < dd → bits BinOp.or IntKind.u64 (q2 : Int) 1 = (u : Int) := fun c => by
      rw [or1_64' q2 (by omega), hue, if_pos c]
    have hor0 : ¬ 1 < dd → bits BinOp.or IntKind.u64 (q2 : Int) 0 = (u : Int) := fun c => by
      rw [or0_64 q2 (by omega), hue, if_neg c]
    have hqq : ¬ mid < m2 → q2 = q := fun c => by rw [hq2, hq, hsub0 c]
    rw [← hu]
    clear hu hue hhi hmid hm2 hy2 hx hp hl hne hne' hq hh2 hdd hq2 q3 q2b hh2b
    by_cases c1 : mid < m2
    · have hsub := hsub1 c1
      clear hsub1 hsub0 hqq
      by_cases c2 : 1 < dd
      · have hor := hor1 c2
        have c2b : decide ((1 : Int) < (dd : Int)) = true := decide_eq_true (by omega)
        clear hor1 hor0
        go_enter Tryz.func192, Tryz.ntmps192
        go_wp2_with fail
        refine (CM.out _).mono ?_
        rintro e w' ⟨rfl, rfl⟩
        go_wp2_with fail
        refine (CL.out _).mono ?_
        rintro e w' ⟨rfl, rfl⟩
        go_wp2_with fail
        refine (bool2u_t _).mono ?_
        rintro e w' ⟨rfl, rfl⟩
        go_wp2_with fail
        go_region_with (go_at_call 182; refine (bool2u_t _).mono ?_; rintro e w' ⟨rfl, rfl⟩)
        all_goals (go_wp2_with fail; go_ret; exact ⟨rfl, by repeat (first | exact Fr.refl _ _ | apply Fr.drew)⟩)
      · have hor := hor0 c2
        have c2b : decide ((1 : Int) < (dd : Int)) = false := decide_eq_false (by omega)
        clear hor1 hor0
        go_enter Tryz.func192, Tryz.ntmps192
        go_wp2_with fail
        refine (CM.out _).mono ?_
        rintro e w' ⟨rfl, rfl⟩
        go_wp2_with fail
        refine (CL.out _).mono ?_
        rintro e w' ⟨rfl, rfl⟩
        go_wp2_with fail
        refine (bool2u_t _).mono ?_
        rintro e w' ⟨rfl, rfl⟩
        go_wp2_with fail
        go_region_with (go_at_call 182; refine (bool2u_f _).mono ?_; rintro e w' ⟨rfl, rfl⟩)
        all_goals (go_wp2_with fail; go_ret; exact ⟨rfl, by repeat (first | exact Fr.refl _ _ | apply Fr.drew)⟩)
    · have hsub := hsub0 c1
      have hq5 := hqq c1
      subst hsub
      subst hq5
      have hwh : IntKind.u64.wrap (hi : Int) = (hi : Int) := fw_u64 _ (by omega) (by omega)
      clear hsub1 hsub0 hqq
      by_cases c2 : 1 < dd
      · have hor := hor1 c2
        have c2b : decide ((1 : Int) < (dd : Int)) = true := decide_eq_true (by omega)
        clear hor1 hor0
        go_enter Tryz.func192, Tryz.ntmps192
        go_wp2_with fail
        refine (CM.out _).mono ?_
        rintro e w' ⟨rfl, rfl⟩
        go_wp2_with fail
        refine (CL.out _).mono ?_
        rintro e w' ⟨rfl, rfl⟩
        go_wp2_with fail
        refine (bool2u_f _).mono ?_
        rintro e w' ⟨rfl, rfl⟩
        go_wp2_with fail
        go_region_with (go_at_call 182; refine (bool2u_t _).mono ?_; rintro e w' ⟨rfl, rfl⟩)
        all_goals (go_wp2_with fail; go_ret; exact ⟨rfl, by repeat (first | exact Fr.refl _ _ | apply Fr.drew)⟩)
      · have hor := hor0 c2
        have c2b : decide ((1 : Int) < (dd : Int)) = false := decide_eq_false (by omega)
        clear hor1 hor0
        go_enter Tryz.func192, Tryz.ntmps192
        go_wp2_with fail
        refine (CM.out _).mono ?_
        rintro e w' ⟨rfl, rfl⟩
        go_wp2_with fail
        refine (CL.out _).mono ?_
        rintro e w' ⟨rfl, rfl⟩
        go_wp2_with fail
        refine (bool2u_f _).mono ?_
        rintro e w' ⟨rfl, rfl⟩
        go_wp2_with fail
        go_region_with (go_at_call 182; refine (bool2u_f _).mono ?_; rintro e w' ⟨rfl, rfl⟩)
        all_goals (go_wp2_with fail; go_ret; exact ⟨rfl, by repeat (first | exact Fr.refl _ _ | apply Fr.drew)⟩)
end Go.Proofs.YtcjkgnafpkkjmaaGreatDoor
end
section
namespace Go.Proofs.YtcjkgnafpkkjmaaGreatDoor
open Go.ChangeShapes Go.WideShapes Go.RowKit Go.Shelf
theorem pow10_bound (i : Nat) (x : Nat × Nat) (h : Pinned.pow10Rows[i]? = some x) : x.1 < 18446744073709551616 ∧ x.2 < 18446744073709551616 := by
  have key : Pinned.pow10Rows.all (fun x => decide (x.1 < 18446744073709551616) && decide (x.2 < 18446744073709551616)) = true := by kernel_rfl
  have := List.all_eq_true.1 key x (List.mem_of_getElem? h)
  simpa using this
theorem pow10_some (i : Nat) (hi : i < 696) : ∃ x, Pinned.pow10Rows[i]? = some x := by
  have key : Pinned.pow10Rows.length = 696 := by kernel_rfl
  exact ⟨_, List.getElem?_eq_getElem (by rw [key]; exact hi)⟩
theorem nudgeg_c (u : Nat) (d : Int) (z : Nat) (w : World) (hz : ((u : Int) + d) % 18446744073709551616 = (z : Int)) (hd : -1 ≤ d) (hd2 : d ≤ 1) : Calls Tryz.prog 193 #[.int .u64 (u : Int), .int .i64 d] w fun e w' => e = .returned (.int .u64 (z : Int)) ∧ w = w' := by
  have e1 : IntKind.u64.wrap ((u : Int) + IntKind.u64.wrap d) = (z : Int) := by
    rw [IntKind.wrap_u64, IntKind.wrap_u64]; omega
  clear hz hd hd2
  go_enter Tryz.func193, Tryz.ntmps193
  go_wp2
  go_ret
  exact ⟨rfl, rfl⟩
theorem ufloorg_c (u q : Nat) (w : World) (h : u < 18446744073709551616) (hq : u / 4 = q) : Calls Tryz.prog 195 #[.int .u64 (u : Int)] w fun e w' => e = .returned (.int .u64 (q : Int)) ∧ w = w' := by
  have e1 : (u : Int) / 4 = (q : Int) := by omega
  have e2 : IntKind.u64.wrap (u : Int) = (u : Int) := fw_u64 _ (by omega) (by omega)
  clear h hq
  go_enter Tryz.func195, Tryz.ntmps195
  go_wp2
  go_ret
  exact ⟨rfl, rfl⟩
theorem and1_64 (y : Nat) (h : y < 18446744073709551616) : bits BinOp.and IntKind.u64 (y : Int) 1 = ((y % 2 : Nat) : Int) := by
  have := bits_and_u64_nat y 1 h (by decide)
  rw [Nat.and_one_is_mod] at this
  exact this
theorem round_c (u q : Nat) (w : World) (h : u < 4000000000000000000) (hq : (u + 1 + u / 4 % 2) / 4 = q) : Calls Tryz.prog 196 #[.int .u64 (u : Int)] w fun e w' => e = .returned (.int .u64 (q : Int)) ∧ w = w' := by
  obtain ⟨y, hy⟩ : ∃ y, y = u / 4 := ⟨_, rfl⟩
  obtain ⟨z, hz⟩ : ∃ z, z = y % 2 := ⟨_, rfl⟩
  have e0 : (u : Int) / 4 = (y : Int) := by omega
  have e3 := and1_64 y (by omega)
  rw [← hz] at e3
  have e1 : ((u : Int) + 1 + (z : Int)) / 4 = (q : Int) := by omega
  have e2 : IntKind.u64.wrap ((u : Int) + 1 + (z : Int)) = (u : Int) + 1 + (z : Int) := fw_u64 _ (by omega) (by omega)
  have e4 : IntKind.u64.wrap ((u : Int) + 1) = (u : Int) + 1 := fw_u64 _ (by omega) (by omega)
  clear h hq hy hz
  go_enter Tryz.func196, Tryz.ntmps196
  go_wp2
  go_ret
  exact ⟨rfl, rfl⟩
theorem skew_c2 (p : Int) (w : World) (h1 : -2000 ≤ p) (h2 : p ≤ 2000) : Calls Tryz.prog 189 #[.int .i64 p] w fun e w' => e = .returned (.int .i64 ((p * 631305 - 261663) / 2097152)) ∧ w = w' := skewed_c p _ w rfl h1 h2
def shP (m : Nat) (e : Int) : Int :=
  if m = 9223372036854775808 ∧ -1085 < e then -(((e + 11) * 631305 - 261663) / 2097152)
  else if -1085 ≤ e then -((e + 11) * 78913 / 262144) else 324
def shZ (e : Int) : Nat := if -1085 ≤ e then 11 else (-1074 - e).toNat
def shMn (m : Nat) (e : Int) : Nat := if m = 9223372036854775808 ∧ -1085 < e then (m + 18446744073709551616 - 512) % 18446744073709551616 else (m + 18446744073709551616 - 2 ^ (shZ e - 1)) % 18446744073709551616
def shMx (m : Nat) (e : Int) : Nat := (m + 2 ^ (shZ e - 1)) % 18446744073709551616
def shOdd (m : Nat) (e : Int) : Nat := m / 2 ^ shZ e % 2
def shFin (dmin dmax dr : Nat) (p : Int) : Nat × Int := if dmin ≤ dmax / 10 * 10 then (dmax / 10, -(p - 1)) else if dmin < dmax then (dr, -p) else (dmin, -p)
theorem shP_bound {m : Nat} {e : Int} (h1 : -1137 ≤ e) (h2 : e ≤ 960) : -300 ≤ shP m e ∧ shP m e ≤ 330 := by
  unfold shP
  split
  · omega
  · split <;> omega
theorem shS_bound {m : Nat} {e : Int} (h1 : -1137 ≤ e) (h2 : e ≤ 960) : 3 ≤ -(e + shP m e * 108853 / 32768 + 3) ∧ -(e + shP m e * 108853 / 32768 + 3) < 64 := by
  unfold shP
  split
  · omega
  · split <;> omega
end Go.Proofs.YtcjkgnafpkkjmaaGreatDoor
end
section
namespace Go.Proofs.YtcjkgnafpkkjmaaGreatDoor
open Go.ChangeShapes Go.WideShapes Go.RowKit Go.Shelf
theorem bits_and_i64_1 (y : Nat) (h : y < 9223372036854775808) : bits BinOp.and IntKind.i64 (y : Int) 1 = ((y % 2 : Nat) : Int) := by
  show IntKind.i64.wrap ((BitVec.ofInt 64 (y : Int) &&& BitVec.ofInt 64 1).toNat : Int) = _
  rw [BitVec.toNat_and]
  have h1 : (BitVec.ofInt 64 (y : Int)).toNat = y := by
    rw [BitVec.ofInt_natCast, BitVec.toNat_ofNat]; exact Nat.mod_eq_of_lt (by omega)
  have h2 : (BitVec.ofInt 64 (1 : Int)).toNat = 1 := by decide
  rw [h1, h2, Nat.and_one_is_mod, IntKind.wrap_i64]
  omega
set_option maxRecDepth 100000 in
set_option maxHeartbeats 2000000 in
theorem short_c (m : Nat) (e : Int) (hm : m < 18446744073709551616) (h1 : -1137 ≤ e) (h2 : e ≤ 960) : ∃ (d : Nat) (p : Int), d < 18446744073709551616 ∧ -340 ≤ p ∧ p ≤ 340 ∧ ∀ (w : World), LdT w → Calls Tryz.prog 151 #[.int .u64 (m : Int), .int .i64 e] w fun x w' => x = .returned (.tuple #[.int .u64 (d : Int), .int .i64 p]) ∧ Fr [] w w' := by
  obtain ⟨P, hP⟩ : ∃ P, P = shP m e := ⟨_, rfl⟩
  have hPb := shP_bound (m := m) h1 h2
  have hSb := shS_bound (m := m) h1 h2
  rw [← hP] at hPb hSb
  obtain ⟨i, hi⟩ : ∃ i : Nat, P + 348 = (i : Int) := ⟨(P + 348).toNat, by omega⟩
  obtain ⟨⟨ph, pl⟩, hrow⟩ := pow10_some i (by omega)
  obtain ⟨hph, hpl⟩ := pow10_bound i _ hrow
  simp only at hph hpl
  obtain ⟨lp, hlp⟩ : ∃ lp, lp = P * 108853 / 32768 := ⟨_, rfl⟩
  rw [← hlp] at hSb
  obtain ⟨s, hs⟩ : ∃ s : Nat, -(e + lp + 3) = (s : Int) := ⟨(-(e + lp + 3)).toNat, by omega⟩
  obtain ⟨mn, hmn⟩ : ∃ mn, mn = shMn m e := ⟨_, rfl⟩
  obtain ⟨mx, hmx⟩ : ∃ mx, mx = shMx m e := ⟨_, rfl⟩
  obtain ⟨od, hod⟩ : ∃ od, od = shOdd m e := ⟨_, rfl⟩
  have hmnb : mn < 18446744073709551616 := by rw [hmn]; unfold shMn; split <;> exact Nat.mod_lt _ (by decide)
  have hmxb : mx < 18446744073709551616 := by rw [hmx]; exact Nat.mod_lt _ (by decide)
  have hodb : od < 2 := by rw [hod]; exact Nat.mod_lt _ (by decide)
  obtain ⟨u1, hu1⟩ : ∃ u, u = usN mn ph pl s := ⟨_, rfl⟩
  obtain ⟨u2, hu2⟩ : ∃ u, u = usN mx ph pl s := ⟨_, rfl⟩
  obtain ⟨u3, hu3⟩ : ∃ u, u = usN m ph pl s := ⟨_, rfl⟩
  have b1 := usN_lt mn ph pl s hmnb hph (by omega)
  have b2 := usN_lt mx ph pl s hmxb hph (by omega)
  have b3 := usN_lt m ph pl s hm hph (by omega)
  rw [← hu1] at b1
  rw [← hu2] at b2
  rw [← hu3] at b3
  obtain ⟨dmin, hdmin⟩ : ∃ d, d = (u1 + od + 3) / 4 := ⟨_, rfl⟩
  obtain ⟨n2, hn2⟩ : ∃ n, n = (u2 + 18446744073709551616 - od) % 18446744073709551616 := ⟨_, rfl⟩
  obtain ⟨dmax, hdmax⟩ : ∃ d, d = n2 / 4 := ⟨_, rfl⟩
  obtain ⟨dr, hdr⟩ : ∃ d, d = (u3 + 1 + u3 / 4 % 2) / 4 := ⟨_, rfl⟩
  obtain ⟨D, hD⟩ : ∃ D, D = shFin dmin dmax dr P := ⟨_, rfl⟩
  refine ⟨D.1, D.2, ?_, ?_, ?_, fun w HL => ?_⟩
  · rw [hD]; unfold shFin; split
    · show dmax / 10 < _; omega
    · split
      · show dr < _; omega
      · show dmin < _; omega
  · rw [hD]; unfold shFin; split
    · show -340 ≤ -(P - 1); omega
    · split
      · show -340 ≤ -P; omega
      · show -340 ≤ -P; omega
  · rw [hD]; unfold shFin; split
    · show -(P - 1) ≤ 340; omega
    · split
      · show -P ≤ 340; omega
      · show -P ≤ 340; omega
  · have hg := HL.big
    have SC := Lib.hid (fun (p : Int) (w : World) (h1 : -2000 ≤ p) (h2 : p ≤ 2000) => skew_c2 p w h1 h2)
    have LC := Lib.hid (fun (p : Int) (w : World) (h1 : -2000 ≤ p) (h2 : p ≤ 2000) => log10p_c p _ w rfl h1 h2)
    have HLH := Lib.hid HL
    clear HL
    go_enter Tryz.func151, Tryz.ntmps151
    go_upto_region 12 with fail
    obtain ⟨sk, hsk⟩ : ∃ sk, sk = decide (m = 9223372036854775808 ∧ -1085 < e) := ⟨_, rfl⟩
    go_cut [28] (fun q wx => q = .bool sk ∧ w = wx)
    case first =>
      have HSK := Lib.hid hsk
      clear hsk
      by_cases c1 : m = 9223372036854775808
      · by_cases c2 : -1085 < e
        · have D : Hid (decide (m = 9223372036854775808 ∧ -1085 < e) = true) := Lib.hid (decide_eq_true ⟨c1, c2⟩)
          have cb : ((m : Int) == 9223372036854775808) = true := by simpa using (show (m : Int) = 9223372036854775808 by omega)
          clear c1 hP hmn hmx hod hu1 hu2 hu3 hD
          go_wp2_with fail
          go_meet
          exact ⟨by rw [HSK.out, D.out], rfl⟩
        · have D : Hid (decide (m = 9223372036854775808 ∧ -1085 < e) = false) := Lib.hid (decide_eq_false (fun h => c2 h.2))
          have cb : ((m : Int) == 9223372036854775808) = true := by simpa using (show (m : Int) = 9223372036854775808 by omega)
          clear c1 hP hmn hmx hod hu1 hu2 hu3 hD
          go_wp2_with fail
          go_meet
          exact ⟨by rw [HSK.out, D.out], rfl⟩
      · have D : Hid (decide (m = 9223372036854775808 ∧ -1085 < e) = false) := Lib.hid (decide_eq_false (fun h => c1 h.1))
        have cb : ((m : Int) == 9223372036854775808) = false := by simpa using (show ¬ (m : Int) = 9223372036854775808 by omega)
        clear c1 hP hmn hmx hod hu1 hu2 hu3 hD
        go_wp2_with fail
        go_meet
        exact ⟨by rw [HSK.out, D.out], rfl⟩
    case rest =>
      obtain ⟨rfl, rfl⟩ := hcut
      have HP0 := Lib.hid hP
      have HMN := Lib.hid hmn
      have HMX := Lib.hid hmx
      have HOD := Lib.hid hod
      have HDD := Lib.hid hD
      have HI := Lib.hid hi
      have HR := Lib.hid hrow
      have HS := Lib.hid hs
      have HU1 := Lib.hid hu1
      have HU2 := Lib.hid hu2
      have HU3 := Lib.hid hu3
      have HD1 := Lib.hid hdmin
      have HD2 := Lib.hid hdmax
      have HD3 := Lib.hid hdr
      have HN2 := Lib.hid hn2
      have HLP := Lib.hid hlp
      clear hP hmn hmx hod hD hi hrow hs hu1 hu2 hu3 hdmin hdmax hdr hn2 hlp
      go_upto_if 28 with fail
      go_cut [5, 8, 9, 10, 11] (fun s5 s8 s9 s10 s11 wx => s5 = .int .i64 P ∧ s8 = .int .u64 (mn : Int) ∧ s9 = .int .u64 (mx : Int) ∧ s10 = .int .i64 (od : Int) ∧ (∃ z : Int, s11 = .int .i64 z) ∧ w = wx)
      case first =>
        cases sk
        · have C : Hid (¬ (m = 9223372036854775808 ∧ -1085 < e)) := Lib.hid (of_decide_eq_false hsk.symm)
          clear hsk
          by_cases c3 : -1085 ≤ e
          · go_wp2_with fail
            refine (LC.out _ _ (by omega) (by omega)).mono ?_
            rintro x w' ⟨rfl, rfl⟩
            go_wp2_with fail
            go_meet
            have c := C.out
            refine ⟨by rw [HP0.out]; unfold shP; rw [if_neg c, if_pos c3], ?_, ?_, ?_, ⟨_, rfl⟩, rfl⟩
            · rw [HMN.out, IntKind.wrap_u64]; unfold shMn shZ; rw [if_neg c, if_pos c3]; congr 1 <;> omega
            · rw [HMX.out, IntKind.wrap_u64]; unfold shMx shZ; rw [if_pos c3]; congr 1 <;> omega
            · rw [show (m : Int) / 2048 = ((m / 2048 : Nat) : Int) by omega, bits_and_i64_1 _ (by omega), HOD.out]; unfold shOdd shZ; rw [if_pos c3]
          · obtain ⟨z, hz⟩ : ∃ z : Nat, z = (-1075 - e).toNat := ⟨_, rfl⟩
            have z1 : 11 + (-1085 - e) = (z : Int) + 1 := by omega
            have z2 : (z : Int) + 1 - 1 = (z : Int) := by omega
            have z3 : z < 63 := by omega
            have z5 : e + ((z : Int) + 1) = -1074 := by omega
            clear hz
            go_wp2_with fail
            refine (LC.out _ _ (by decide) (by decide)).mono ?_
            rintro x w' ⟨rfl, rfl⟩
            go_wp2_with fail
            go_meet
            have c := C.out
            have zz : shZ e = z + 1 := by unfold shZ; rw [if_neg (by omega)]; omega
            obtain ⟨y, hy⟩ : ∃ y, y = 2 ^ z := ⟨_, rfl⟩
            have hyb : y < 9223372036854775808 := by rw [hy]; exact Nat.lt_of_lt_of_le (Nat.pow_lt_pow_right (by decide) z3) (by decide)
            have hyi : (2 : Int) ^ z = (y : Int) := by rw [hy]; push_cast; rfl
            obtain ⟨v, hv⟩ : ∃ v, v = m / 2 ^ (z + 1) := ⟨_, rfl⟩
            have hvi : (m : Int) / 2 ^ (z + 1) = (v : Int) := by rw [hv]; push_cast; rfl
            have hvb : v < 9223372036854775808 := by
              rw [hv]
              have h2 : 2 ^ 1 ≤ 2 ^ (z + 1) := Nat.pow_le_pow_right (by decide) (by omega)
              have : m / 2 ^ (z + 1) ≤ m / 2 ^ 1 := Nat.div_le_div_left h2 (by decide)
              omega
            have hwy : IntKind.u64.wrap (y : Int) = (y : Int) := fw_u64 _ (by omega) (by omega)
            have hwv : wrap64 (v : Int) = (v : Int) := by unfold wrap64; omega
            rw [hyi, hwy, hvi, hwv]
            refine ⟨by rw [HP0.out]; unfold shP; rw [if_neg c, if_neg (by omega)], ?_, ?_, ?_, ⟨_, rfl⟩, rfl⟩
            · rw [HMN.out, IntKind.wrap_u64]; unfold shMn; rw [if_neg c, zz, Nat.add_sub_cancel, ← hy]; congr 1 <;> omega
            · rw [HMX.out, IntKind.wrap_u64]; unfold shMx; rw [zz, Nat.add_sub_cancel, ← hy]; congr 1 <;> omega
            · rw [bits_and_i64_1 _ hvb, HOD.out]; unfold shOdd; rw [zz, ← hv]
        · have C : Hid (m = 9223372036854775808 ∧ -1085 < e) := Lib.hid (of_decide_eq_true hsk.symm)
          clear hsk
          go_wp2_with fail
          refine (SC.out _ _ (by omega) (by omega)).mono ?_
          rintro x w' ⟨rfl, rfl⟩
          go_wp2_with fail
          go_meet
          have c := C.out
          refine ⟨by rw [HP0.out]; unfold shP; rw [if_pos c], ?_, ?_, ?_, ⟨_, rfl⟩, rfl⟩
          · rw [HMN.out, IntKind.wrap_u64]; unfold shMn; rw [if_pos c]; congr 1 <;> omega
          · rw [HMX.out, IntKind.wrap_u64]; unfold shMx shZ; rw [if_pos (show -1085 ≤ e by omega)]; congr 1 <;> omega
          · rw [show (m : Int) / 2048 = ((m / 2048 : Nat) : Int) by omega, bits_and_i64_1 _ (by omega), HOD.out]; unfold shOdd shZ; rw [if_pos (show -1085 ≤ e by omega)]
      case rest =>
        obtain ⟨rfl, rfl, rfl, rfl, ⟨z, rfl⟩, rfl⟩ := hcut
        obtain ⟨W1, hW1⟩ : ∃ W1, W1 = w.alloc (.cells #[.int .u64 0, .int .u64 0, .int .i64 0] 220) := ⟨_, rfl⟩
        obtain ⟨k, hk⟩ : ∃ k, k = w.heap.size := ⟨_, rfl⟩
        have F1 : Hid (Fr [] w W1) := Lib.hid (by rw [hW1]; exact (Fr.refl _ _).alloc _)
        have HB : Hid (blk W1 k = some (.cells #[.int .u64 0, .int .u64 0, .int .i64 0] 220 (0, 0))) := Lib.hid (by rw [hW1, hk, blk_alloc, if_pos rfl])
        have HP := Lib.hid (prescale_c W1 k i ph pl s e P lp _ _ _ (HLH.out.fr F1.out) HB.out (by rw [hk]; exact hg) HI.out (by have := HI.out; omega) HR.out HS.out (by omega) (by omega) (by rw [HLP.out]; omega) (by rw [HLP.out]; omega))
        have HK : Hid (w.heap.size ≤ k) := Lib.hid (by rw [hk]; exact Nat.le_refl _)
        have CL2 := Lib.hid (fun w1 => log2p_c P lp w1 HLP.out.symm (by omega) (by omega))
        have hs3 : 3 ≤ s := by have := HS.out; omega
        have hs4 : s < 64 := by have := HS.out; omega
        clear HB hg
        go_upto_region 28 with fail
        rw [← hW1, ← hk]
        clear hW1 hk
        go_wp2_with fail
        refine (CL2.out _).mono ?_
        rintro x w' ⟨rfl, rfl⟩
        go_wp2_with fail
        refine HP.out.mono ?_
        rintro x w2 ⟨rfl, S2, F2⟩
        have S2 := Lib.hid S2
        have F2 := Lib.hid (F1.out.trans F2 (fun x hx => .inr (by rw [List.mem_singleton.1 hx]; exact HK.out)))
        clear HP F1 HK
        go_wp2_with fail
        refine (uscaleg_c w2 k mn ph pl s S2.out hs3 hs4 hmnb hph hpl).mono ?_
        rintro x w3 ⟨rfl, F3⟩
        have S3 := Lib.hid (S2.out.fr F3)
        have F3 := Lib.hid (F2.out.same F3)
        clear S2 F2
        rw [← HU1.out]
        go_wp2_with fail
        refine (nudgeg_c u1 (od : Int) (u1 + od) _ (by omega) (by omega) (by omega)).mono ?_
        rintro x w' ⟨rfl, rfl⟩
        go_wp2_with fail
        refine (ceil_c (u1 + od) dmin _ (by omega) HD1.out.symm).mono ?_
        rintro x w' ⟨rfl, rfl⟩
        go_wp2_with fail
        refine (uscaleg_c w3 k mx ph pl s S3.out hs3 hs4 hmxb hph hpl).mono ?_
        rintro x w4 ⟨rfl, F4⟩
        have S4 := Lib.hid (S3.out.fr F4)
        have F4 := Lib.hid (F3.out.same F4)
        clear S3 F3
        rw [← HU2.out]
        go_wp2_with fail
        refine (nudgeg_c u2 (-(od : Int)) n2 _ (by rw [HN2.out]; omega) (by omega) (by omega)).mono ?_
        rintro x w' ⟨rfl, rfl⟩
        go_wp2_with fail
        refine (ufloorg_c n2 dmax _ (by rw [HN2.out]; exact Nat.mod_lt _ (by decide)) HD2.out.symm).mono ?_
        rintro x w' ⟨rfl, rfl⟩
        have DB : dmax < 4611686018427387904 := by rw [HD2.out, HN2.out]; omega
        obtain ⟨d10, hd10⟩ : ∃ d, d = dmax / 10 := ⟨_, rfl⟩
        have hdi : (dmax : Int) / 10 = (d10 : Int) := by omega
        have FD := HDD.out
        unfold shFin at FD
        rw [← hd10] at FD
        by_cases q1 : dmin ≤ d10 * 10
        · rw [if_pos q1] at FD
          subst FD
          have q1i : (dmin : Int) ≤ (d10 : Int) * 10 := by omega
          have hd11 : d10 * 10 < 4611686018427387904 := by omega
          clear hd10 q1
          go_wp2_with fail
          go_ret2
          exact ⟨rfl, F4.out⟩
        · rw [if_neg q1] at FD
          have q1i : ¬ (dmin : Int) ≤ (d10 : Int) * 10 := by omega
          have hd11 : d10 * 10 < 4611686018427387904 := by omega
          by_cases q2 : dmin < dmax
          · rw [if_pos q2] at FD
            subst FD
            clear hd10 q1
            go_wp2_with fail
            refine (uscaleg_c w4 k m ph pl s S4.out hs3 hs4 hm hph hpl).mono ?_
            rintro x w5 ⟨rfl, F5⟩
            have F5 := Lib.hid (F4.out.same F5)
            clear S4 F4
            rw [← HU3.out]
            go_wp2_with fail
            refine (round_c u3 dr _ (by omega) HD3.out.symm).mono ?_
            rintro x w' ⟨rfl, rfl⟩
            go_wp2_with fail
            go_ret2
            exact ⟨rfl, F5.out⟩
          · rw [if_neg q2] at FD
            subst FD
            clear hd10 q1
            go_wp2_with fail
            go_ret2
            exact ⟨rfl, F4.out⟩
end Go.Proofs.YtcjkgnafpkkjmaaGreatDoor
end
section
namespace Go.Proofs.YtcjkgnafpkkjmaaGreatDoor
namespace Fmt
def b8 (n : Nat) : UInt8 := UInt8.ofNat n
def sgnB (neg : Bool) : List Nat := if neg then [45] else []
def ddN (a : Nat) : List Nat := if a < 10 then [48, a + 48] else if a < 100 then [a / 10 + 48, a % 10 + 48] else [a / 100 + 48, a / 10 % 10 + 48, a % 10 + 48]
def expB (x : Int) : List Nat := (if x < 0 then 45 else 43) :: ddN x.natAbs
def manB (neg : Bool) (ds : List Nat) : List Nat := sgnB neg ++ (ds.headD 48 :: (if 1 < ds.length then 46 :: ds.tail else []))
def efgE (neg : Bool) (ds : List Nat) (dp : Int) : List Nat := manB neg ds ++ 101 :: expB (if ds.length = 0 then 0 else dp - 1)
def efgF (neg : Bool) (ds : List Nat) (dp : Int) : List Nat :=
  sgnB neg ++ ((if 0 < dp then ds.take dp.toNat ++ List.replicate (dp.toNat - ds.length) 48 else [48]) ++
    (if dp < (ds.length : Int) then 46 :: (List.replicate (-dp).toNat 48 ++ ds.drop dp.toNat) else []))
def stripZ : List Nat → List Nat
  | [] => []
  | [c] => [c]
  | c :: d :: r => if c = 48 then stripZ (d :: r) else c :: d :: r
theorem strip_one (c : Nat) : stripZ [c] = [c] := rfl
theorem strip_zero (d : Nat) (r : List Nat) : stripZ (48 :: d :: r) = stripZ (d :: r) := by
  show (if (48 : Nat) = 48 then stripZ (d :: r) else _) = _
  rw [if_pos rfl]
theorem strip_ne {c : Nat} (h : c ≠ 48) (r : List Nat) : stripZ (c :: r) = c :: r := by
  cases r with
  | nil => rfl
  | cons d t => show (if c = 48 then _ else c :: d :: t) = _; rw [if_neg h]
theorem dec_strip (a : Nat) (h : a < 1000) : Lib.decDigits a = (stripZ (ddN a)).map b8 := by
  unfold ddN
  by_cases h1 : a < 10
  · rw [if_pos h1, strip_zero, strip_one, dec_small h1, Nat.add_comm]; rfl
  · rw [if_neg h1]
    by_cases h2 : a < 100
    · rw [if_pos h2, strip_ne (by omega), dec_big h1, dec_small (by omega)]
      rw [Nat.add_comm 48, Nat.add_comm 48]; rfl
    · rw [if_neg h2, strip_ne (by omega), dec_big h1, dec_big (by omega), dec_small (by omega)]
      rw [Nat.div_div_eq_div_mul]
      rw [Nat.add_comm 48, Nat.add_comm 48, Nat.add_comm 48]; rfl
theorem itoa_exp (x : Int) (h1 : -1000 < x) (h2 : x < 1000) : Lib.itoa x = ((if x < 0 then [45] else []) ++ stripZ (ddN x.natAbs)).map b8 := by
  unfold Lib.itoa
  by_cases h : x < 0
  · rw [if_pos h, if_pos h, dec_strip _ (by omega)]; rfl
  · rw [if_neg h, if_neg h]
    have : x.toNat = x.natAbs := by omega
    rw [this, dec_strip _ (by omega)]; rfl
def Dig (ds : List Nat) : Prop := ∀ d ∈ ds, 48 ≤ d ∧ d ≤ 57
theorem dig_man {neg : Bool} {ds : List Nat} (h : Dig ds) : ∀ c ∈ manB neg ds, c = 45 ∨ c = 46 ∨ (48 ≤ c ∧ c ≤ 57) := by
  intro c hc
  unfold manB at hc
  rcases List.mem_append.1 hc with h1 | h1
  · unfold sgnB at h1
    split at h1
    · exact .inl (by simpa using h1)
    · exact absurd h1 (by simp)
  · rcases List.mem_cons.1 h1 with h1 | h1
    · right; right
      cases ds with
      | nil => have : c = 48 := h1; omega
      | cons d t => have : c = d := h1; rw [this]; exact h d (by simp)
    · split at h1
      · rcases List.mem_cons.1 h1 with h1 | h1
        · exact .inr (.inl h1)
        · exact .inr (.inr (h c (List.mem_of_mem_tail h1)))
      · exact absurd h1 (by simp)
theorem dig_dd (a : Nat) (h : a < 1000) : ∀ c ∈ ddN a, 48 ≤ c ∧ c ≤ 57 := by
  intro c hc
  unfold ddN at hc
  split at hc
  · simp only [List.mem_cons, List.not_mem_nil, or_false] at hc; omega
  · split at hc
    · simp only [List.mem_cons, List.not_mem_nil, or_false] at hc; omega
    · simp only [List.mem_cons, List.not_mem_nil, or_false] at hc; omega
theorem b8_toNat {n : Nat} (h : n < 256) : (b8 n).toNat = n := by unfold b8; simp; omega
theorem b8_ne {n m : Nat} (h : n < 256) (hm : m < 256) (hne : n ≠ m) : b8 n ≠ b8 m := by
  intro e; apply hne; rw [← b8_toNat h, ← b8_toNat hm, e]
theorem len_dd (a : Nat) : (ddN a).length = 2 ∨ (ddN a).length = 3 := by
  unfold ddN
  split
  · exact .inl rfl
  · split
    · exact .inl rfl
    · exact .inr rfl
theorem len_strip (l : List Nat) : (stripZ l).length ≤ l.length := by
  match l with
  | [] => exact Nat.le_refl _
  | [c] => exact Nat.le_refl _
  | c :: d :: r =>
    show (if c = 48 then stripZ (d :: r) else c :: d :: r).length ≤ _
    split
    · have := len_strip (d :: r); simp at this ⊢; omega
    · exact Nat.le_refl _
def pointL (l : List Nat) : List Nat := if 46 ∈ l then l else l ++ [46, 48]
def textE (neg : Bool) (ds : List Nat) (dp : Int) : List Nat :=
  let x := if ds.length = 0 then 0 else dp - 1
  pointL (manB neg ds) ++ 101 :: ((if x < 0 then [45] else []) ++ stripZ (ddN x.natAbs))
end Fmt
end Go.Proofs.YtcjkgnafpkkjmaaGreatDoor
end
section
namespace Go.Proofs.YtcjkgnafpkkjmaaGreatDoor
open Go.ChangeShapes Go.WideShapes Go.RowKit Go.Shelf Go.Sort Go.Lib
def ndN (d : Nat) : Nat := if d = 0 then 0 else Lib.nDigits d
theorem ndN_lt (d : Nat) : d < 10 ^ ndN d := by
  unfold ndN
  split
  · rename_i h; rw [h]; decide
  · exact Lib.lt_pow_nDigits d
theorem ndN_le (d : Nat) (h : d < 18446744073709551616) : ndN d ≤ 20 := by
  unfold ndN
  split
  · omega
  · by_cases h20 : Lib.nDigits d ≤ 20
    · exact h20
    · exfalso
      have : ∀ (k u : Nat), u < 10 ^ (k + 1) → Lib.nDigits u ≤ k + 1 := by
        intro k
        induction k with
        | zero => intro u hu; rw [Lib.nDigits_small (by simpa using hu)]; exact Nat.le_refl _
        | succ k ih =>
          intro u hu
          by_cases hs : u < 10
          · rw [Lib.nDigits_small hs]; omega
          · rw [Lib.nDigits_big hs]
            have := ih (u / 10) (by rw [Nat.div_lt_iff_lt_mul (by decide), ← Nat.pow_succ]; exact hu)
            omega
      exact h20 (this 19 d (by omega))
set_option maxRecDepth 100000 in
theorem numdig_c (d : Nat) (w : World) (h : d < 18446744073709551616) (HT : Tab w) : Calls Tryz.prog 145 #[.int .u64 (d : Int)] w fun e w' => e = .returned (.int .i64 (ndN d : Int)) ∧ w' = w := by
  by_cases h0 : d = 0
  · subst h0
    have CL := Lib.hid (fun w1 => by have := Tryz.bits_Len64 0 w1 (by decide) (by decide); rw [show Lib.bitLen (0 : Int).toNat = 0 by decide] at this; exact this)
    have C10 := Lib.hid (fun w1 => by have := Tryz.internal_strconv_log10Pow2 0 (by decide) w1; rw [show Lib.l10 0 = 0 by decide] at this; exact this)
    have CB := Lib.hid (fun w1 => Tryz.internal_strconv_bool2_int false w1)
    have ht : w.cell? ⟨7, 0, none⟩ = some (.int .u64 1) := by
      have := World.var?_cell (by kernel_rfl : Tryz.prog.globalNamed "internal/strconv.uint64pow10" = some 7) HT 0
      rw [this]; rfl
    have hn : ndN 0 = 0 := rfl
    rw [hn]
    clear HT
    go_enter Tryz.func145, Tryz.ntmps145
    go_wp2_with fail
    refine (CL.out _).mono ?_
    rintro e w' ⟨rfl, rfl⟩
    go_wp2_with fail
    refine (C10.out _).mono ?_
    rintro e w' ⟨rfl, rfl⟩
    go_wp2_with fail
    refine (CB.out _).mono ?_
    rintro e w' ⟨rfl, rfl⟩
    go_wp2_with fail
    go_ret
    exact ⟨rfl, rfl⟩
  · have := Tryz.internal_strconv_numDigits d (by omega) h w HT
    unfold ndN
    rw [if_neg h0]
    exact this
theorem cutz_some (nd d : Nat) : ∃ z, z ≤ nd ∧ (∀ t, z ≤ t → t < nd → dgN d (nd - 1 - t) = 48) ∧ (z = 0 ∨ dgN d (nd - z) ≠ 48) := by
  have key : ∀ k, k ≤ nd → (∀ t, k ≤ t → t < nd → dgN d (nd - 1 - t) = 48) → ∃ z, z ≤ nd ∧ (∀ t, z ≤ t → t < nd → dgN d (nd - 1 - t) = 48) ∧ (z = 0 ∨ dgN d (nd - z) ≠ 48) := by
    intro k
    induction k with
    | zero => intro _ h; exact ⟨0, by omega, h, .inl rfl⟩
    | succ k ih =>
      intro hk h
      by_cases hz : dgN d (nd - 1 - k) = 48
      · exact ih (by omega) (fun t h1 h2 => by
          by_cases e : t = k
          · rw [e]; exact hz
          · exact h t (by omega) h2)
      · exact ⟨k + 1, hk, h, .inr (by rw [show nd - (k + 1) = nd - 1 - k by omega]; exact hz)⟩
  exact key nd (Nat.le_refl _) (fun t h1 h2 => absurd h1 (by omega))
set_option maxRecDepth 100000 in
theorem setdigg_c (w : World) (g nd z d : Nat) (p : Int) (hd : d < 10 ^ nd) (h64 : d < 18446744073709551616) (hnd : nd ≤ 32) (hp1 : -1000 ≤ p) (hp2 : p ≤ 1000) (hzn : z ≤ nd) (hz : ∀ t, z ≤ t → t < nd → dgN d (nd - 1 - t) = 48) (hz2 : z = 0 ∨ dgN d (nd - z) ≠ 48) (hc : blk w g = some (.cells (Array.replicate 32 (.int .u8 0)) 162 (0, 0))) :
    Calls Tryz.prog 144 #[.slice (some ⟨g, 0, none⟩) 32 32, .int .u64 (d : Int), .int .i64 p, .int .i64 (nd : Int)] w fun e w' => e = .returned (.tuple #[.int .i64 (nd + p), .int .i64 (z : Int)]) ∧ DigAt w' g nd d ∧ Fr [g] w w' := by
  have CF := Lib.hid (format_c w g nd d hd h64 hnd hc)
  have kl := lt_size hc
  have HZ := Lib.hid hz
  have HZ2 := Lib.hid hz2
  clear hz hz2 h64 hd hc
  go_enter Tryz.func144, Tryz.ntmps144
  go_wp2_with fail
  refine CF.out.mono ?_
  rintro e w1 ⟨rfl, D1, F1⟩
  have D1 := Lib.hid D1
  have F1 := Lib.hid F1
  clear CF kl
  go_wp2_with fail
  go_loopw [3] (fun u wr => ∃ t : Nat, z ≤ t ∧ t ≤ nd ∧ u = .int .i64 (t : Int) ∧ w1 = wr) (fun u _ => (RowKit.intOf u).toNat)
  case atStart => exact ⟨nd, hzn, Nat.le_refl _, rfl, rfl⟩
  case round =>
    obtain ⟨t, ht1, ht2, rfl, rfl⟩ := hrel
    by_cases h0 : t = 0
    · subst h0
      have hz0 : z = 0 := by omega
      subst hz0
      go_wp2_with fail
      go_ret2
      exact ⟨rfl, D1.out, F1.out⟩
    · have hc := D1.out (t - 1) (by omega)
      obtain ⟨q, hq⟩ : ∃ q, t = q + 1 := ⟨t - 1, by omega⟩
      subst hq
      rw [Nat.add_sub_cancel] at hc
      obtain ⟨y, hy⟩ : ∃ y, y = dgN d (nd - 1 - q) := ⟨_, rfl⟩
      rw [← hy] at hc
      have hlt := addr_none hc
      by_cases hzt : z ≤ q
      · have hy0 : y = 48 := by rw [hy]; exact HZ.out q hzt (by omega)
        subst hy0
        clear hy
        go_wp2_with fail
        go_roundw
        case rel => exact ⟨q, hzt, by omega, by go_num, trivial⟩
        case measure => simp [RowKit.intOf]
      · have hyz : y ≠ 48 := by
          have : nd - 1 - q = nd - z := by omega
          rw [hy, this]
          rcases HZ2.out with h | h
          · omega
          · exact h
        have hyb : ((y : Int) == 48) = false := by simpa using fun hc => hyz (by omega)
        have hqz : q + 1 = z := by omega
        have HQ := Lib.hid hqz
        clear hy hyz hqz
        go_wp2_with fail
        go_ret2
        rw [← HQ.out]
        exact ⟨rfl, D1.out, F1.out⟩
end Go.Proofs.YtcjkgnafpkkjmaaGreatDoor
end
