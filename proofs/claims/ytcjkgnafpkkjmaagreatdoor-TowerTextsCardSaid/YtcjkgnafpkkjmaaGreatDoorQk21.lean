/- The texts and numbers of numbers: a part of the walk. No condition. -/
import Derived.Test.YtcjkgnafpkkjmaaGreatDoorQk20
set_option linter.all false
namespace Go.Proofs.YtcjkgnafpkkjmaaGreatDoor
section
open Go.ChangeShapes Go.WideShapes Go.RowKit Go.Shelf
def fB (c1 c2 c3 : Ordering) : Bool := c1 == .eq || (c2 != .lt && c3 == .lt)
def fNum (b : Nat) : Bool := fB (compare ((b % 9223372036854775808 : Nat) : Int) 0) (compare ((b % 9223372036854775808 : Nat) : Int) 4562254508917369340) (compare ((b % 9223372036854775808 : Nat) : Int) 4921056587992461136)
theorem fin_lt {b : Nat} (h : b / 4503599627370496 % 2048 ≠ 2047) : b % 9223372036854775808 < 9218868437227405312 := by omega
theorem fin_nn {b : Nat} (h : b / 4503599627370496 % 2048 ≠ 2047) : isNan b = false ∧ isInf b = false := by
  have := fin_lt h
  constructor
  · unfold isNan; exact decide_eq_false (by omega)
  · unfold isInf; exact decide_eq_false (by omega)
theorem efg_split (neg : Bool) (ds : List Nat) (dp : Int) : (Fmt.efgE neg ds dp).map Fmt.b8 = (Fmt.manB neg ds).map Fmt.b8 ++ 101 :: (Fmt.expB (if ds.length = 0 then 0 else dp - 1)).map Fmt.b8 := by
  unfold Fmt.efgE; rw [List.map_append, List.map_cons]; rfl
theorem man_not {neg : Bool} {ds : List Nat} (h : Fmt.Dig ds) : (101 : UInt8) ∉ (Fmt.manB neg ds).map Fmt.b8 := by
  intro hm
  obtain ⟨n, hn, he⟩ := List.mem_map.1 hm
  have := Fmt.dig_man h n hn
  exact Fmt.b8_ne (n := n) (m := 101) (by omega) (by decide) (by omega) he
theorem point_man {neg : Bool} {ds : List Nat} (h : Fmt.Dig ds) : pointU ((Fmt.manB neg ds).map Fmt.b8) = (Fmt.pointL (Fmt.manB neg ds)).map Fmt.b8 := by
  unfold pointU Fmt.pointL
  by_cases hm : 46 ∈ Fmt.manB neg ds
  · have hm2 : (46 : UInt8) ∈ (Fmt.manB neg ds).map Fmt.b8 := List.mem_map.2 ⟨46, hm, rfl⟩
    rw [if_pos hm, if_pos hm2]
  · rw [if_neg hm, if_neg, List.map_append]
    · rfl
    · intro hc
      obtain ⟨n, hn, he⟩ := List.mem_map.1 hc
      have := Fmt.dig_man h n hn
      by_cases e : n = 46
      · exact hm (e ▸ hn)
      · exact Fmt.b8_ne (n := n) (m := 46) (by omega) (by decide) e he
theorem text_join {neg : Bool} {ds : List Nat} {dp x : Int} (h : Fmt.Dig ds) (hx : x = if ds.length = 0 then 0 else dp - 1) (h1 : -1000 < x) (h2 : x < 1000) : pointU ((Fmt.manB neg ds).map Fmt.b8) ++ [101] ++ Lib.itoa x = (Fmt.textE neg ds dp).map Fmt.b8 := by
  rw [point_man h, Fmt.itoa_exp x h1 h2]
  unfold Fmt.textE
  rw [← hx]
  simp only [List.map_append, List.map_cons, List.append_assoc, List.singleton_append]
  rfl
theorem man_len (neg : Bool) (ds : List Nat) (hl : ds.length ≤ 20) : (Fmt.manB neg ds).length ≤ 30 := by
  have SL : (Fmt.sgnB neg).length ≤ 1 := by cases neg <;> decide
  by_cases hn : ds.length ≤ 1
  · rw [man_small neg ds hn]; simp; omega
  · rw [man_big neg ds (by omega)]; simp; omega
set_option maxRecDepth 100000 in
set_option maxHeartbeats 1000000 in
theorem ftxt_c (b : Nat) (hb : b < 18446744073709551616) (hfin : b / 4503599627370496 % 2048 ≠ 2047) (L : List UInt8) (hL : L.length ≤ 900) (w : World) (v : Bool) (hv : v = fNum b)
    (RF : v = true → Calls Tryz.prog 29 #[.float .f64 b, .int .u8 102, .int .i64 (-1), .int .i64 64] w fun e w' => e = .returned (.string (ba L)) ∧ Fr [] w w')
    (neg : Bool) (ds : List Nat) (dp : Int) (hdd : Fmt.Dig ds) (hdl : ds.length ≤ 20) (hd1 : -400 ≤ dp) (hd2 : dp ≤ 400)
    (RE : v = false → Calls Tryz.prog 29 #[.float .f64 b, .int .u8 101, .int .i64 (-1), .int .i64 64] w fun e w' => e = .returned (.string ⟨((Fmt.efgE neg ds dp).map Fmt.b8).toArray⟩) ∧ Fr [] w w') (HL : LdT w) :
    Calls Tryz.prog 9 #[.float .f64 b] w fun e w' => e = .returned (.string (if v then ba (pointU L) else ba ((Fmt.textE neg ds dp).map Fmt.b8))) ∧ Fr [] w w' := by
  obtain ⟨n1, n2⟩ := fin_nn hfin
  have CN := Lib.hid (name_fin b hb n1 n2 w)
  have CA := Lib.hid (abs_c b hb w)
  have alt := fin_lt hfin
  have o1 := order_pos alt (show (0 : Nat) < 9218868437227405312 by decide)
  have o2 := order_pos alt (show (4562254508917369340 : Nat) < 9218868437227405312 by decide)
  have o3 := order_pos alt (show (4921056587992461136 : Nat) < 9218868437227405312 by decide)
  unfold fNum at hv
  obtain ⟨a, ha⟩ : ∃ a, a = b % 9223372036854775808 := ⟨_, rfl⟩
  rw [← ha] at CA o1 o2 o3 hv
  obtain ⟨c1, hc1⟩ : ∃ c, c = compare (a : Int) 0 := ⟨_, rfl⟩
  obtain ⟨c2, hc2⟩ : ∃ c, c = compare (a : Int) 4562254508917369340 := ⟨_, rfl⟩
  obtain ⟨c3, hc3⟩ : ∃ c, c = compare (a : Int) 4921056587992461136 := ⟨_, rfl⟩
  replace o1 : FloatKind.f64.format.order a 0 = some c1 := o1.trans (congrArg some hc1.symm)
  replace o2 : FloatKind.f64.format.order a 4562254508917369340 = some c2 := o2.trans (congrArg some hc2.symm)
  replace o3 : FloatKind.f64.format.order a 4921056587992461136 = some c3 := o3.trans (congrArg some hc3.symm)
  rw [← hc1, ← hc2, ← hc3] at hv
  clear hc1 hc2 hc3 ha alt hfin n1 n2 hb
  have HV := Lib.hid hv
  have HRF := Lib.hid RF
  have HRE := Lib.hid RE
  have HLL := Lib.hid HL
  clear hv RF RE HL
  go_enter Tryz.func9, Tryz.ntmps9
  go_wp2_with fail
  refine CN.out.mono ?_
  rintro e w' ⟨rfl, rfl⟩
  go_wp2_with fail
  refine CA.out.mono ?_
  rintro e w' ⟨rfl, rfl⟩
  go_upto_region 5 with fail
  go_cut [26] from 17 to 25 (fun q wx => q = .bool v ∧ w = wx)
  case first =>
    have HVo := HV.out
    cases c1 <;> cases c2 <;> cases c3 <;> (go_wp2_with fail; go_meet; exact ⟨by rw [HVo]; rfl, rfl⟩)
  case rest =>
    obtain ⟨rfl, rfl⟩ := hcut
    clear o1 o2 o3
    cases v
    · obtain ⟨x, hx⟩ : ∃ x : Int, x = if ds.length = 0 then 0 else dp - 1 := ⟨_, rfl⟩
      have hx1 : -1000 < x := by rw [hx]; split <;> omega
      have hx2 : x < 1000 := by rw [hx]; split <;> omega
      have ES := efg_split neg ds dp
      have MN := man_not (neg := neg) hdd
      have TJ := text_join (neg := neg) hdd hx hx1 hx2
      have ML := man_len neg ds hdl
      have AX := atoi_exp x hx1 hx2
      rw [← hx] at ES
      obtain ⟨F, hF⟩ : ∃ F, F = (Fmt.manB neg ds).map Fmt.b8 := ⟨_, rfl⟩
      obtain ⟨T, hT⟩ : ∃ T, T = (Fmt.expB x).map Fmt.b8 := ⟨_, rfl⟩
      have FL : F.length ≤ 30 := by rw [hF, List.length_map]; exact ML
      have TL : T.length ≤ 4 := by
        rw [hT, List.length_map]; unfold Fmt.expB
        have := Fmt.len_dd x.natAbs
        simp; omega
      rw [← hF] at ES MN TJ
      rw [← hT] at ES AX
      have CF := HRE.out rfl
      rw [ES] at CF
      replace CF := Lib.hid CF
      have CP := Lib.hid (fun w1 => point_g F (by omega) w1)
      have PL : (pointU F).length ≤ 32 := by
        unfold pointU; split
        · omega
        · rw [List.length_append]; simp; omega
      have CI := Lib.hid (fun (w1 : World) (h : Fr [] w w1) => Tryz.strconv_Itoa x (by omega) (by omega) w1 (HLL.out.tab.fr h))
      have CT := Lib.hid (fun w1 => Tryz.strconv_Atoi (ba T) x (by rw [ba_size]; omega) (show Lib.atoi (ba T).data.toList = some x from AX) w1)
      have CC := Lib.hid (fun w1 => cut_g F T MN (by omega) w1)
      have IL : (Lib.itoa x).length ≤ 4 := by
        rw [Fmt.itoa_exp x hx1 hx2, List.length_map, List.length_append]
        have := Fmt.len_dd x.natAbs
        have := Fmt.len_strip (Fmt.ddN x.natAbs)
        split <;> simp <;> omega
      have J1 := ba_app (pointU F) [101]
      have J2 := ba_app (pointU F ++ [101]) (Lib.itoa x)
      rw [TJ] at J2
      have hp : (ba (pointU F)).size ≤ 32 := PL
      have hq : (ba (pointU F ++ [101])).size ≤ 33 := by rw [ba_size, List.length_append]; simp; omega
      have hi : (ba (Lib.itoa x)).size ≤ 4 := IL
      change Hid (∀ (w1 : World), Fr [] w w1 → Calls _ _ _ w1 fun e w' => e = .returned (.string (ba (Lib.itoa x))) ∧ _) at CI
      have J3 : Hid (ba (pointU F) ++ (⟨#[101]⟩ : ByteArray) ++ ba (Lib.itoa x) = ba ((Fmt.textE neg ds dp).map Fmt.b8)) := Lib.hid (by rw [← J2, ← J1]; rfl)
      clear J1 J2 hq
      generalize ba (pointU F) = P at *
      generalize ba (Lib.itoa x) = I at *
      clear HRF HRE CN CA hx hdd ES MN TJ ML AX hF hT FL PL IL TL HV
      go_wp2_with fail
      refine CF.out.mono ?_
      rintro e w2 ⟨rfl, F2⟩
      have F2 := Lib.hid F2
      go_wp2_with fail
      refine (CC.out w2).mono ?_
      rintro e w3 ⟨rfl, F3⟩
      have F3 := Lib.hid (F2.out.same F3)
      go_wp2_with fail
      refine (CT.out w3).mono ?_
      rintro e w4 ⟨rfl, t4, hw4⟩
      have F4 := Lib.hid (F3.out.same (show Fr [] w3 w4 by rw [hw4]; exact fr_bytes _ _ _))
      clear hw4
      have CI := Lib.hid (CI.out w4 F4.out)
      go_wp2_with fail
      refine (CP.out _).mono ?_
      rintro e w' ⟨rfl, rfl⟩
      go_wp2_with fail
      refine CI.out.mono ?_
      rintro e w5 ⟨rfl, nk, os, hw5⟩
      have F5 := Lib.hid (F4.out.same (show Fr [] w4 w5 by rw [hw5]; exact fr_of_below (Lib.below_grow _ _ (Nat.le_refl _) nk os)))
      clear hw5
      go_wp2_with fail
      go_ret
      refine ⟨?_, F5.out⟩
      show Ending.returned (.string (P ++ (⟨#[101]⟩ : ByteArray) ++ I)) = _
      rw [J3.out]
    · have CF := Lib.hid (HRF.out rfl)
      clear HRF HRE
      go_wp2_with fail
      refine CF.out.mono ?_
      rintro e w2 ⟨rfl, F2⟩
      have F2 := Lib.hid F2
      go_wp2_with fail
      refine (point_g L (by omega) w2).mono ?_
      rintro e w' ⟨rfl, rfl⟩
      go_wp2_with fail
      go_ret
      exact ⟨rfl, F2.out⟩
def strLen : Value → Nat
  | .string t => t.size
  | _ => 0
theorem exp_not {x : Int} (h1 : -1000 < x) (h2 : x < 1000) : (101 : UInt8) ∉ (Fmt.expB x).map Fmt.b8 ∧ (46 : UInt8) ∉ (Fmt.expB x).map Fmt.b8 := by
  have key : ∀ n ∈ Fmt.expB x, n < 101 ∧ n ≠ 46 := by
    intro n hn
    unfold Fmt.expB at hn
    rcases List.mem_cons.1 hn with hn | hn
    · split at hn <;> omega
    · have := Fmt.dig_dd _ (by omega) n hn; omega
  constructor
  · intro hm
    obtain ⟨n, hn, he⟩ := List.mem_map.1 hm
    have := key n hn
    exact Fmt.b8_ne (n := n) (m := 101) (by omega) (by decide) (by omega) he
  · intro hm
    obtain ⟨n, hn, he⟩ := List.mem_map.1 hm
    have := key n hn
    exact Fmt.b8_ne (n := n) (m := 46) (by omega) (by decide) (by omega) he
theorem at_e {F T : List UInt8} (hF : (101 : UInt8) ∉ F) (hT : (101 : UInt8) ∉ T) (i : Nat) (hi : i < (F ++ 101 :: T).length) : (F ++ 101 :: T)[i]?.getD 0 = 101 ↔ i = F.length := by
  constructor
  · intro h
    by_cases h1 : i < F.length
    · exfalso
      rw [List.getElem?_append_left h1, List.getElem?_eq_getElem h1] at h
      exact hF (by rw [← show F[i] = 101 from h]; exact List.getElem_mem h1)
    · by_cases h2 : i = F.length
      · exact h2
      · exfalso
        obtain ⟨k, hk⟩ : ∃ k, i - F.length = k + 1 := ⟨i - F.length - 1, by omega⟩
        rw [List.getElem?_append_right (by omega), hk, List.getElem?_cons_succ] at h
        have hk2 : k < T.length := by simp at hi; omega
        rw [List.getElem?_eq_getElem hk2] at h
        exact hT (by rw [← show T[k] = 101 from h]; exact List.getElem_mem hk2)
  · rintro rfl
    rw [List.getElem?_append_right (Nat.le_refl _)]; simp
theorem mem_take_succ {S : List UInt8} {i : Nat} (hi : i < S.length) (c : UInt8) : c ∈ S.take (i + 1) ↔ c ∈ S.take i ∨ S[i]?.getD 0 = c := by
  rw [List.take_succ, List.mem_append, List.getElem?_eq_getElem hi]
  simp [eq_comm]
set_option maxRecDepth 100000 in
set_option maxHeartbeats 1000000 in
theorem rtxt_c (b : Nat) (hb : b < 18446744073709551616) (hfin : b / 4503599627370496 % 2048 ≠ 2047) (L : List UInt8) (hL : L.length ≤ 900) (w : World) (v : Bool) (hv : v = fNum b)
    (RF : v = true → Calls Tryz.prog 29 #[.float .f64 b, .int .u8 102, .int .i64 (-1), .int .i64 64] w fun e w' => e = .returned (.string (ba L)) ∧ Fr [] w w')
    (neg : Bool) (ds : List Nat) (dp : Int) (hdd : Fmt.Dig ds) (hdl : ds.length ≤ 20) (hd1 : -400 ≤ dp) (hd2 : dp ≤ 400)
    (RE : v = false → Calls Tryz.prog 29 #[.float .f64 b, .int .u8 101, .int .i64 (-1), .int .i64 64] w fun e w' => e = .returned (.string ⟨((Fmt.efgE neg ds dp).map Fmt.b8).toArray⟩) ∧ Fr [] w w') (HL : LdT w) :
    Calls Tryz.prog 10 #[.float .f64 b] w fun e w' => e = .returned (.string (if v then ba (pointU L) else ba ((Fmt.textE neg ds dp).map Fmt.b8))) ∧ Fr [] w w' := by
  obtain ⟨n1, n2⟩ := fin_nn hfin
  have CB : Hid (Calls Tryz.prog 33 #[.float .f64 b] w fun e w' => e = .returned (.int .u64 (b : Int)) ∧ w = w') := Lib.hid (by
    have := r3bits_c b hb w
    rw [show bitsC b = b by unfold bitsC; rw [n1]; rfl] at this
    exact this)
  have CA := Lib.hid (abs_c b hb w)
  have alt := fin_lt hfin
  have b1 : ((b : Int) == 9221120237041090561) = false := by rw [beq_eq_false_iff_ne]; omega
  have b2 : ((b : Int) == 9218868437227405312) = false := by rw [beq_eq_false_iff_ne]; omega
  have b3 : ((b : Int) == 18442240474082181120) = false := by rw [beq_eq_false_iff_ne]; omega
  have o1 := order_pos alt (show (0 : Nat) < 9218868437227405312 by decide)
  have o2 := order_pos alt (show (4562254508917369340 : Nat) < 9218868437227405312 by decide)
  have o3 := order_pos alt (show (4921056587992461136 : Nat) < 9218868437227405312 by decide)
  unfold fNum at hv
  obtain ⟨a, ha⟩ : ∃ a, a = b % 9223372036854775808 := ⟨_, rfl⟩
  rw [← ha] at CA o1 o2 o3 hv
  obtain ⟨c1, hc1⟩ : ∃ c, c = compare (a : Int) 0 := ⟨_, rfl⟩
  obtain ⟨c2, hc2⟩ : ∃ c, c = compare (a : Int) 4562254508917369340 := ⟨_, rfl⟩
  obtain ⟨c3, hc3⟩ : ∃ c, c = compare (a : Int) 4921056587992461136 := ⟨_, rfl⟩
  replace o1 : FloatKind.f64.format.order a 0 = some c1 := o1.trans (congrArg some hc1.symm)
  replace o2 : FloatKind.f64.format.order a 4562254508917369340 = some c2 := o2.trans (congrArg some hc2.symm)
  replace o3 : FloatKind.f64.format.order a 4921056587992461136 = some c3 := o3.trans (congrArg some hc3.symm)
  rw [← hc1, ← hc2, ← hc3] at hv
  clear hc1 hc2 hc3 ha alt hfin n1 n2 hb
  have HV := Lib.hid hv
  have HRF := Lib.hid RF
  have HRE := Lib.hid RE
  have HLL := Lib.hid HL
  clear hv RF RE HL
  go_enter Tryz.func10, Tryz.ntmps10
  go_wp2_with fail
  refine CB.out.mono ?_
  rintro e w' ⟨rfl, rfl⟩
  go_wp2_with fail
  refine CA.out.mono ?_
  rintro e w' ⟨rfl, rfl⟩
  go_upto_region 9 with fail
  go_cut [33] from 24 to 32 (fun q wx => q = .bool v ∧ w = wx)
  case first =>
    have HVo := HV.out
    cases c1 <;> cases c2 <;> cases c3 <;> (go_wp2_with fail; go_meet; exact ⟨by rw [HVo]; rfl, rfl⟩)
  case rest =>
    obtain ⟨rfl, rfl⟩ := hcut
    clear o1 o2 o3
    cases v
    · obtain ⟨x, hx⟩ : ∃ x : Int, x = if ds.length = 0 then 0 else dp - 1 := ⟨_, rfl⟩
      have hx1 : -1000 < x := by rw [hx]; split <;> omega
      have hx2 : x < 1000 := by rw [hx]; split <;> omega
      have ES := efg_split neg ds dp
      have MN := man_not (neg := neg) hdd
      have TJ := text_join (neg := neg) hdd hx hx1 hx2
      have ML := man_len neg ds hdl
      obtain ⟨EN1, EN2⟩ := exp_not hx1 hx2
      rw [← hx] at ES
      obtain ⟨F, hF⟩ : ∃ F, F = (Fmt.manB neg ds).map Fmt.b8 := ⟨_, rfl⟩
      obtain ⟨T, hT⟩ : ∃ T, T = (Fmt.expB x).map Fmt.b8 := ⟨_, rfl⟩
      have FL : F.length ≤ 30 := by rw [hF, List.length_map]; exact ML
      have TL : T.length ≤ 4 := by
        rw [hT, List.length_map]; unfold Fmt.expB
        have := Fmt.len_dd x.natAbs
        simp; omega
      rw [← hF] at ES MN TJ
      rw [← hT] at ES EN1 EN2
      have CF := HRE.out rfl
      rw [ES] at CF
      change Calls _ _ _ _ fun e w' => e = .returned (.string (ba (F ++ 101 :: T))) ∧ _ at CF
      have AT := Lib.hid (fun i hi => at_e MN EN1 i hi)
      have TK := Lib.hid (fun (i : Nat) (hi : i < (F ++ 101 :: T).length) => mem_take_succ hi 46)
      have DT : Hid ((46 : UInt8) ∈ (F ++ 101 :: T) ↔ (46 : UInt8) ∈ F) := Lib.hid (by
        rw [List.mem_append, List.mem_cons]
        constructor
        · rintro (h | h | h)
          · exact h
          · exact absurd h (by decide)
          · exact absurd h EN2
        · exact fun h => .inl h)
      have X1 := ba_left F (101 :: T)
      have X2 := ba_right F T 101
      have SL : (F ++ 101 :: T).length = F.length + T.length + 1 := by simp; omega
      obtain ⟨S, hS⟩ : ∃ S, S = F ++ 101 :: T := ⟨_, rfl⟩
      rw [← hS] at CF AT TK DT X1 X2 SL
      replace CF := Lib.hid CF
      have hsz := ba_size S
      rw [SL] at X2
      obtain ⟨n, hn⟩ : ∃ n, n = F.length := ⟨_, rfl⟩
      rw [← hn] at AT X1 X2 SL FL
      obtain ⟨k, hk⟩ : ∃ k, k = T.length := ⟨_, rfl⟩
      rw [← hk] at X2 SL TL
      have HK := Lib.hid hk
      have HN := Lib.hid hn
      have HT := Lib.hid hT
      have HTJ := Lib.hid TJ
      have HLS := Lib.hid SL
      rw [SL] at hsz
      clear HRF HRE CB CA hx hdd ES MN ML EN1 EN2 hF hT HV TJ hn hS hk b1 b2 b3
      go_wp2_with fail
      refine CF.out.mono ?_
      rintro e w2 ⟨rfl, F2⟩
      have F2 := Lib.hid F2
      go_wp2_with fail
      go_loopw [8, 9, 10] (fun s8 s9 s10 wr => ∃ (i a : Nat) (d : Bool), i ≤ n + k + 1 ∧ s10 = .int .i64 (i : Int) ∧ s8 = .int .i64 (a : Int) ∧ s9 = .bool d ∧ w2 = wr ∧ Hid (a = if n < i then n else 0) ∧ Hid (d = decide ((46 : UInt8) ∈ S.take i))) (fun _ _ a _ => n + k + 1 - (RowKit.intOf a).toNat)
      case atStart => exact ⟨0, 0, false, Nat.zero_le _, rfl, rfl, rfl, rfl, Lib.hid (by rw [if_neg (by omega)]), Lib.hid (by simp)⟩
      case round =>
        obtain ⟨i, a, d, hi, rfl, rfl, rfl, rfl, HA, HD⟩ := hrel
        by_cases hlt : i < n + k + 1
        · have hil : i < S.length := by rw [SL]; exact hlt
          have SI : ∀ W : World, (Instr.index 9 (.string (ba S)) (.int .i64 (i : Int))).run Tryz.prog W = .ok (.int .u8 ((S[i]?.getD 0).toNat : Int)) W := fun W => run_str_at S i hil W
          have AI := Lib.hid (AT.out i hil)
          have TI := Lib.hid (TK.out i hil)
          generalize S[i]?.getD 0 = c at SI AI TI
          obtain ⟨cn, hcn⟩ : ∃ cn, cn = c.toNat := ⟨_, rfl⟩
          rw [← hcn] at SI
          have HCN := Lib.hid hcn
          clear hcn
          obtain ⟨a2, ha2⟩ : ∃ a2, a2 = if n < i + 1 then n else 0 := ⟨_, rfl⟩
          obtain ⟨d2, hd2⟩ : ∃ d2, d2 = decide ((46 : UInt8) ∈ S.take (i + 1)) := ⟨_, rfl⟩
          have HA2 := Lib.hid ha2
          have HD2 := Lib.hid hd2
          clear ha2 hd2
          have C1 : Hid (cn = 101 ↔ c = 101) := Lib.hid ⟨fun h => by apply UInt8.toNat_inj.1; rw [← HCN.out, h]; rfl, fun h => by rw [HCN.out, h]; rfl⟩
          have C2 : Hid (cn = 46 ↔ c = 46) := Lib.hid ⟨fun h => by apply UInt8.toNat_inj.1; rw [← HCN.out, h]; rfl, fun h => by rw [HCN.out, h]; rfl⟩
          have D1 : Hid (cn = 46 → d2 = true) := Lib.hid (fun h => by rw [HD2.out]; exact decide_eq_true (TI.out.2 (.inr (C2.out.1 h))))
          have D0 : Hid (cn ≠ 46 → d2 = d) := Lib.hid (fun h => by
            rw [HD2.out, HD.out]
            exact decide_eq_decide.2 ⟨fun hm => (TI.out.1 hm).resolve_right (fun e => h (C2.out.2 e)), fun hm => TI.out.2 (.inl hm)⟩)
          by_cases q1 : cn = 101
          · have hin : i = n := AI.out.1 (C1.out.1 q1)
            have e2 : Hid (a2 = i) := Lib.hid (by rw [HA2.out, if_pos (by omega), hin])
            have e3 : Hid (d2 = d) := Lib.hid (D0.out (by omega))
            have cb1 : ((cn : Int) == 101) = true := by simpa using (show (cn : Int) = 101 by omega)
            have cb2 : ((cn : Int) == 46) = false := by rw [beq_eq_false_iff_ne]; omega
            clear q1 hin
            cases d
            · go_wp2_with fail
              go_roundw
              case rel => exact ⟨i + 1, i, false, by omega, by go_num, rfl, rfl, trivial, Lib.hid (e2.out.symm.trans HA2.out), Lib.hid (e3.out.symm.trans HD2.out)⟩
              case measure => simp [RowKit.intOf]; omega
            · go_wp2_with fail
              go_roundw
              case rel => exact ⟨i + 1, i, true, by omega, by go_num, rfl, rfl, trivial, Lib.hid (e2.out.symm.trans HA2.out), Lib.hid (e3.out.symm.trans HD2.out)⟩
              case measure => simp [RowKit.intOf]; omega
          · have hin : i ≠ n := fun h => q1 (C1.out.2 (AI.out.2 h))
            have e2 : Hid (a2 = a) := Lib.hid (by
              rw [HA2.out, HA.out]
              by_cases h : n < i
              · rw [if_pos h, if_pos (by omega)]
              · rw [if_neg h, if_neg (by omega)])
            have cb1 : ((cn : Int) == 101) = false := by rw [beq_eq_false_iff_ne]; omega
            clear q1 hin
            by_cases q2 : cn = 46
            · have e3 : Hid (d2 = true) := Lib.hid (D1.out q2)
              have cb2 : ((cn : Int) == 46) = true := by simpa using (show (cn : Int) = 46 by omega)
              clear q2
              cases d
              · go_wp2_with fail
                go_roundw
                case rel => exact ⟨i + 1, a, true, by omega, by go_num, rfl, rfl, trivial, Lib.hid (e2.out.symm.trans HA2.out), Lib.hid (e3.out.symm.trans HD2.out)⟩
                case measure => simp [RowKit.intOf]; omega
              · go_wp2_with fail
                go_roundw
                case rel => exact ⟨i + 1, a, true, by omega, by go_num, rfl, rfl, trivial, Lib.hid (e2.out.symm.trans HA2.out), Lib.hid (e3.out.symm.trans HD2.out)⟩
                case measure => simp [RowKit.intOf]; omega
            · have e3 : Hid (d2 = d) := Lib.hid (D0.out q2)
              have cb2 : ((cn : Int) == 46) = false := by rw [beq_eq_false_iff_ne]; omega
              clear q2
              cases d
              · go_wp2_with fail
                go_roundw
                case rel => exact ⟨i + 1, a, false, by omega, by go_num, rfl, rfl, trivial, Lib.hid (e2.out.symm.trans HA2.out), Lib.hid (e3.out.symm.trans HD2.out)⟩
                case measure => simp [RowKit.intOf]; omega
              · go_wp2_with fail
                go_roundw
                case rel => exact ⟨i + 1, a, true, by omega, by go_num, rfl, rfl, trivial, Lib.hid (e2.out.symm.trans HA2.out), Lib.hid (e3.out.symm.trans HD2.out)⟩
                case measure => simp [RowKit.intOf]; omega
        · have hiL : i = n + k + 1 := by omega
          have HIL := Lib.hid hiL
          have ha : a = n := by rw [HA.out, if_pos (by omega)]
          subst ha
          have hdd : d = decide ((46 : UInt8) ∈ F) := by
            rw [HD.out, List.take_of_length_le (by rw [SL]; omega)]
            exact decide_eq_decide.2 DT.out
          have PU1 : Hid (d = true → ba F = ba (pointU F)) := Lib.hid (fun h => by
            rw [hdd] at h
            rw [show pointU F = F from if_pos (of_decide_eq_true h)])
          have PU0 : Hid (d = false → ba F ++ (⟨#[46, 48]⟩ : ByteArray) = ba (pointU F)) := Lib.hid (fun h => by
            rw [hdd] at h
            rw [show pointU F = F ++ [46, 48] from if_neg (of_decide_eq_false h), ← ba_app]; rfl)
          have hn2 := HN.out
          have PS : (ba (pointU F)).size ≤ 32 := by
            rw [ba_size]; unfold pointU; split
            · omega
            · rw [List.length_append]; simp; omega
          have FS : (ba F).size = a := by rw [ba_size, ← HN.out]
          clear hdd HA HD AT TK DT hi hn2 hiL
          obtain ⟨D, hD⟩ : ∃ D, D = Fmt.ddN x.natAbs := ⟨_, rfl⟩
          have DL : D.length = 2 ∨ D.length = 3 := by rw [hD]; exact Fmt.len_dd _
          have DD : Hid (∀ c ∈ D, 48 ≤ c ∧ c ≤ 57) := Lib.hid (by rw [hD]; exact Fmt.dig_dd _ (by omega))
          have FIN : Hid (ba ((Fmt.textE neg ds dp).map Fmt.b8) = ba (pointU F) ++ (⟨#[101]⟩ : ByteArray) ++ ba (if x < 0 then [45] else []) ++ ba ((Fmt.stripZ D).map Fmt.b8)) := Lib.hid (by
            rw [← HTJ.out, Fmt.itoa_exp x hx1 hx2, ← hD, List.map_append, ← List.append_assoc, ← ba_app, ← ba_app, ← ba_app]
            have : (if x < 0 then [45] else ([] : List Nat)).map Fmt.b8 = (if x < 0 then [45] else ([] : List UInt8)) := by split <;> rfl
            rw [this]; rfl)
          have TE : Hid (T = Fmt.b8 (if x < 0 then 45 else 43) :: D.map Fmt.b8) := Lib.hid (by rw [HT.out]; unfold Fmt.expB; rw [← hD]; rfl)
          clear hD
          have LP : ∀ (W : World) (c : UInt8) (l : List UInt8), (Instr.index 9 (.string (ba (c :: l))) (.int .i64 0)).run Tryz.prog W = .ok (.int .u8 (c.toNat : Int)) W := fun W c l => run_str_at (c :: l) 0 (by simp) W
          go_upto_if 73 with fail
          go_cut [11] from 74 to 75 (fun s11 wx => s11 = .string (ba (pointU F)) ∧ w2 = wx)
          case first =>
            cases d
            · have PE := Lib.hid (PU0.out rfl)
              go_wp2_with fail
              go_meet
              exact ⟨by rw [PE.out], rfl⟩
            · have PE := Lib.hid (PU1.out rfl)
              go_wp2_with fail
              go_meet
              exact ⟨by rw [PE.out], rfl⟩
          case rest =>
            obtain ⟨rfl, rfl⟩ := hcut
            clear PU0 PU1
            obtain ⟨E8, hE8⟩ : ∃ E8, E8 = D.map Fmt.b8 := ⟨_, rfl⟩
            have HE8 := Lib.hid hE8
            have hkE : k = E8.length + 1 := by rw [HK.out, TE.out, hE8]; simp
            obtain ⟨e0, r8, hcons⟩ : ∃ e0 r8, E8 = e0 :: r8 := by
              cases hq : E8 with
              | nil => rw [hq] at hE8; have := congrArg List.length hE8; simp at this; omega
              | cons e0 r8 => exact ⟨e0, r8, rfl⟩
            have hE0 : e0.toNat ≠ 43 ∧ e0.toNat ≠ 45 := by
              have hm : e0 ∈ D.map Fmt.b8 := by rw [← hE8, hcons]; simp
              obtain ⟨c, hc, rfl⟩ := List.mem_map.1 hm
              have := DD.out c hc
              rw [Fmt.b8_toNat (by omega)]; omega
            obtain ⟨z0, hz0⟩ : ∃ z0, z0 = e0.toNat := ⟨_, rfl⟩
            rw [← hz0] at hE0
            have I0 := fun W => LP W e0 r8
            rw [← hz0, ← hcons] at I0
            have cz1 : ((z0 : Int) == 45) = false := by rw [beq_eq_false_iff_ne]; omega
            have sz2 : (ba E8).size = E8.length := rfl
            have X3 := ba_tail (Fmt.b8 (if x < 0 then 45 else 43)) E8
            have sz3 : (ba (Fmt.b8 (if x < 0 then 45 else 43) :: E8)).size = E8.length + 1 := rfl
            have I1 := fun W => LP W (Fmt.b8 (if x < 0 then 45 else 43)) E8
            rw [show (Fmt.b8 (if x < 0 then 45 else 43)).toNat = (if x < 0 then 45 else 43) from Fmt.b8_toNat (by split <;> decide)] at I1
            rw [TE.out, ← hE8] at X2
            obtain ⟨B, hB⟩ : ∃ B, B = ba (Fmt.b8 (if x < 0 then 45 else 43) :: E8) := ⟨_, rfl⟩
            rw [← hB] at X2 X3 sz3 I1
            obtain ⟨sb, hsb⟩ : ∃ sb : Nat, sb = if x < 0 then 45 else 43 := ⟨_, rfl⟩
            rw [← hsb] at I1
            have HSB := Lib.hid hsb
            rw [← hkE] at X3 sz3
            have hkp : 1 ≤ k := by omega
            have hE1 : 1 ≤ E8.length := by rw [hcons]; simp
            clear hB hsb hz0 hcons hE8 hE0 hkE
            by_cases hx0 : x < 0
            · have hs : sb = 45 := by rw [HSB.out, if_pos hx0]
              have XIF : ba (if x < 0 then [45] else []) = (⟨#[45]⟩ : ByteArray) := by rw [if_pos hx0]; rfl
              replace XIF := Lib.hid XIF
              subst hs
              clear HSB hx0
              go_wp2_with fail
              go_loopw [12] (fun s12 wr => ∃ p : List Nat, s12 = .string (ba (p.map Fmt.b8)) ∧ w2 = wr ∧ 1 ≤ p.length ∧ p.length ≤ 3 ∧ Hid (∀ c ∈ p, 48 ≤ c ∧ c ≤ 57) ∧ Hid (Fmt.stripZ p = Fmt.stripZ D)) (fun s _ => strLen s)
              case atStart => exact ⟨D, by rw [HE8.out], rfl, by omega, by omega, DD, Lib.hid rfl⟩
              case round =>
                obtain ⟨p, rfl, rfl, l1, l2, PD, PS2⟩ := hrel
                cases p with
                | nil => exact absurd l1 (by decide)
                | cons c q =>
                  cases q with
                  | nil =>
                    have PF : Hid (ba ([c].map Fmt.b8) = ba ((Fmt.stripZ D).map Fmt.b8)) := Lib.hid (by rw [← PS2.out]; rfl)
                    have sp : (ba ([c].map Fmt.b8)).size = 1 := rfl
                    generalize ba ([c].map Fmt.b8) = P at *
                    go_wp2_with fail
                    go_ret
                    refine ⟨?_, F2.out⟩
                    show Ending.returned (.string (ba (pointU F) ++ (⟨#[101]⟩ : ByteArray) ++ (⟨#[45]⟩ : ByteArray) ++ P)) = Ending.returned (.string (ba ((Fmt.textE neg ds dp).map Fmt.b8)))
                    rw [FIN.out, PF.out, XIF.out]
                  | cons e r =>
                    have sp : (ba ((c :: e :: r).map Fmt.b8)).size = r.length + 2 := by rw [ba_size]; simp
                    have IP := fun W => LP W (Fmt.b8 c) ((e :: r).map Fmt.b8)
                    have hcd := PD.out c (by simp)
                    rw [Fmt.b8_toNat (show c < 256 by omega)] at IP
                    have XT := ba_tail (Fmt.b8 c) ((e :: r).map Fmt.b8)
                    rw [show ((e :: r).map Fmt.b8).length + 1 = r.length + 2 by simp] at XT
                    have PF : Hid (c ≠ 48 → ba ((c :: e :: r).map Fmt.b8) = ba ((Fmt.stripZ D).map Fmt.b8)) := Lib.hid (fun h => by rw [← PS2.out, Fmt.strip_ne h])
                    have PS3 : Hid (c = 48 → Fmt.stripZ (e :: r) = Fmt.stripZ D) := Lib.hid (fun h => by rw [← PS2.out, h, Fmt.strip_zero])
                    have PD2 : Hid (∀ y ∈ e :: r, 48 ≤ y ∧ y ≤ 57) := Lib.hid (fun y hy => PD.out y (List.mem_cons_of_mem _ hy))
                    have lr : r.length ≤ 1 := by simp at l2; omega
                    have M8 : strLen (.string (ba ((c :: e :: r).map Fmt.b8))) = r.length + 2 := sp
                    have M9 : strLen (.string (ba ((e :: r).map Fmt.b8))) = r.length + 1 := by show (ba _).size = _; rw [ba_size]; simp
                    change (ba ((c :: e :: r).map Fmt.b8)).extract 1 (r.length + 2) = _ at XT
                    change ∀ W, Sem.run _ (Instr.index _ (.string (ba ((c :: e :: r).map Fmt.b8))) _) W = _ at IP
                    obtain ⟨P, hP⟩ : ∃ P, P = ba ((c :: e :: r).map Fmt.b8) := ⟨_, rfl⟩
                    rw [← hP] at sp IP XT PF M8 ⊢
                    obtain ⟨P2, hP2⟩ : ∃ P2, P2 = ba ((e :: r).map Fmt.b8) := ⟨_, rfl⟩
                    have HP2 := Lib.hid hP2
                    rw [← hP2] at XT M9
                    clear hP hP2 PD PS2 l1 l2
                    by_cases hc : c = 48
                    · have PS4 := Lib.hid (PS3.out hc)
                      have cb : ((c : Int) == 48) = true := by simpa using (show (c : Int) = 48 by omega)
                      clear hc PF PS3
                      go_wp2_with fail
                      go_roundw
                      case rel => exact ⟨e :: r, by rw [HP2.out], trivial, by simp, by simp; omega, PD2, PS4⟩
                      case measure => rw [M8, M9]; omega
                    · have PF2 := Lib.hid (PF.out hc)
                      have cb : ((c : Int) == 48) = false := by rw [beq_eq_false_iff_ne]; omega
                      clear hc PF PS3
                      go_wp2_with fail
                      go_ret
                      refine ⟨?_, F2.out⟩
                      show Ending.returned (.string (ba (pointU F) ++ (⟨#[101]⟩ : ByteArray) ++ (⟨#[45]⟩ : ByteArray) ++ P)) = Ending.returned (.string (ba ((Fmt.textE neg ds dp).map Fmt.b8)))
                      rw [FIN.out, PF2.out, XIF.out]
            · have hs : sb = 43 := by rw [HSB.out, if_neg hx0]
              have XIF : ba (if x < 0 then [45] else []) = (⟨#[]⟩ : ByteArray) := by rw [if_neg hx0]; rfl
              replace XIF := Lib.hid XIF
              subst hs
              clear HSB hx0
              go_wp2_with fail
              go_loopw [12] (fun s12 wr => ∃ p : List Nat, s12 = .string (ba (p.map Fmt.b8)) ∧ w2 = wr ∧ 1 ≤ p.length ∧ p.length ≤ 3 ∧ Hid (∀ c ∈ p, 48 ≤ c ∧ c ≤ 57) ∧ Hid (Fmt.stripZ p = Fmt.stripZ D)) (fun s _ => strLen s)
              case atStart => exact ⟨D, by rw [HE8.out], rfl, by omega, by omega, DD, Lib.hid rfl⟩
              case round =>
                obtain ⟨p, rfl, rfl, l1, l2, PD, PS2⟩ := hrel
                cases p with
                | nil => exact absurd l1 (by decide)
                | cons c q =>
                  cases q with
                  | nil =>
                    have PF : Hid (ba ([c].map Fmt.b8) = ba ((Fmt.stripZ D).map Fmt.b8)) := Lib.hid (by rw [← PS2.out]; rfl)
                    have sp : (ba ([c].map Fmt.b8)).size = 1 := rfl
                    generalize ba ([c].map Fmt.b8) = P at *
                    go_wp2_with fail
                    go_ret
                    refine ⟨?_, F2.out⟩
                    show Ending.returned (.string (ba (pointU F) ++ (⟨#[101]⟩ : ByteArray) ++ (⟨#[]⟩ : ByteArray) ++ P)) = Ending.returned (.string (ba ((Fmt.textE neg ds dp).map Fmt.b8)))
                    rw [FIN.out, PF.out, XIF.out]
                  | cons e r =>
                    have sp : (ba ((c :: e :: r).map Fmt.b8)).size = r.length + 2 := by rw [ba_size]; simp
                    have IP := fun W => LP W (Fmt.b8 c) ((e :: r).map Fmt.b8)
                    have hcd := PD.out c (by simp)
                    rw [Fmt.b8_toNat (show c < 256 by omega)] at IP
                    have XT := ba_tail (Fmt.b8 c) ((e :: r).map Fmt.b8)
                    rw [show ((e :: r).map Fmt.b8).length + 1 = r.length + 2 by simp] at XT
                    have PF : Hid (c ≠ 48 → ba ((c :: e :: r).map Fmt.b8) = ba ((Fmt.stripZ D).map Fmt.b8)) := Lib.hid (fun h => by rw [← PS2.out, Fmt.strip_ne h])
                    have PS3 : Hid (c = 48 → Fmt.stripZ (e :: r) = Fmt.stripZ D) := Lib.hid (fun h => by rw [← PS2.out, h, Fmt.strip_zero])
                    have PD2 : Hid (∀ y ∈ e :: r, 48 ≤ y ∧ y ≤ 57) := Lib.hid (fun y hy => PD.out y (List.mem_cons_of_mem _ hy))
                    have lr : r.length ≤ 1 := by simp at l2; omega
                    have M8 : strLen (.string (ba ((c :: e :: r).map Fmt.b8))) = r.length + 2 := sp
                    have M9 : strLen (.string (ba ((e :: r).map Fmt.b8))) = r.length + 1 := by show (ba _).size = _; rw [ba_size]; simp
                    change (ba ((c :: e :: r).map Fmt.b8)).extract 1 (r.length + 2) = _ at XT
                    change ∀ W, Sem.run _ (Instr.index _ (.string (ba ((c :: e :: r).map Fmt.b8))) _) W = _ at IP
                    obtain ⟨P, hP⟩ : ∃ P, P = ba ((c :: e :: r).map Fmt.b8) := ⟨_, rfl⟩
                    rw [← hP] at sp IP XT PF M8 ⊢
                    obtain ⟨P2, hP2⟩ : ∃ P2, P2 = ba ((e :: r).map Fmt.b8) := ⟨_, rfl⟩
                    have HP2 := Lib.hid hP2
                    rw [← hP2] at XT M9
                    clear hP hP2 PD PS2 l1 l2
                    by_cases hc : c = 48
                    · have PS4 := Lib.hid (PS3.out hc)
                      have cb : ((c : Int) == 48) = true := by simpa using (show (c : Int) = 48 by omega)
                      clear hc PF PS3
                      go_wp2_with fail
                      go_roundw
                      case rel => exact ⟨e :: r, by rw [HP2.out], trivial, by simp, by simp; omega, PD2, PS4⟩
                      case measure => rw [M8, M9]; omega
                    · have PF2 := Lib.hid (PF.out hc)
                      have cb : ((c : Int) == 48) = false := by rw [beq_eq_false_iff_ne]; omega
                      clear hc PF PS3
                      go_wp2_with fail
                      go_ret
                      refine ⟨?_, F2.out⟩
                      show Ending.returned (.string (ba (pointU F) ++ (⟨#[101]⟩ : ByteArray) ++ (⟨#[]⟩ : ByteArray) ++ P)) = Ending.returned (.string (ba ((Fmt.textE neg ds dp).map Fmt.b8)))
                      rw [FIN.out, PF2.out, XIF.out]
    · have CF := Lib.hid (HRF.out rfl)
      clear HRF HRE
      go_wp2_with fail
      refine CF.out.mono ?_
      rintro e w2 ⟨rfl, F2⟩
      have F2 := Lib.hid F2
      have hsz := ba_size L
      have PU : Hid (∀ n, n = L.length → (∀ j, j < n → L[j]?.getD 0 ≠ 46) → ba (pointU L) = ba L ++ (⟨#[46, 48]⟩ : ByteArray)) := Lib.hid (fun n hn hj => by
        have : (46 : UInt8) ∉ L := fun hm => by
          obtain ⟨k, hk⟩ := List.getElem?_of_mem hm
          have hkl : k < L.length := (List.getElem?_eq_some_iff.1 hk).1
          exact hj k (by omega) (by rw [hk]; rfl)
        rw [show pointU L = L ++ [46, 48] from if_neg this, ← ba_app]; rfl)
      have PI : Hid (∀ j, j < L.length → L[j]?.getD 0 = 46 → pointU L = L) := Lib.hid (fun j hj he => by
        rw [List.getElem?_eq_getElem hj] at he
        exact if_pos (by rw [← show L[j] = 46 from he]; exact List.getElem_mem hj))
      have SK : ∀ (i : Nat) (hi : i < L.length) (W : World), _ := fun i hi W => run_str_at L i hi W
      go_wp2_with fail
      go_loopw [6] (fun s6 wr => ∃ (i : Nat), i ≤ L.length ∧ s6 = .int .i64 (i : Int) ∧ w2 = wr ∧ Hid (∀ j, j < i → L[j]?.getD 0 ≠ 46)) (fun a _ => L.length - (RowKit.intOf a).toNat)
      case atStart => exact ⟨0, Nat.zero_le _, rfl, rfl, Lib.hid (fun j hj => absurd hj (by omega))⟩
      case round =>
        obtain ⟨i, hi, rfl, rfl, HJ⟩ := hrel
        by_cases hlt : i < L.length
        · have SI : ∀ W : World, (Instr.index 9 (.string (ba L)) (.int .i64 (i : Int))).run Tryz.prog W = .ok (.int .u8 ((L[i]?.getD 0).toNat : Int)) W := fun W => run_str_at L i hlt W
          have NX : Hid (L[i]?.getD 0 ≠ 46 → ∀ j, j < i + 1 → L[j]?.getD 0 ≠ 46) := Lib.hid (fun h j hj => by
            by_cases e : j = i
            · rw [e]; exact h
            · exact HJ.out j (by omega))
          have PI := Lib.hid (PI.out i hlt)
          generalize L[i]?.getD 0 = c at SI NX PI
          obtain ⟨cn, hcn⟩ : ∃ cn, cn = c.toNat := ⟨_, rfl⟩
          rw [← hcn] at SI
          by_cases hc : cn = 46
          · have hce : c = 46 := by apply UInt8.toNat_inj.1; rw [← hcn, hc]; rfl
            have PO := Lib.hid (PI.out hce)
            clear hce hcn
            subst hc
            go_wp2_with fail
            go_ret
            rw [PO.out]
            exact ⟨rfl, F2.out⟩
          · have hce : c ≠ 46 := by rintro rfl; exact hc hcn
            have NX := Lib.hid (NX.out hce)
            have hcb : ((cn : Int) == 46) = false := by rw [beq_eq_false_iff_ne]; omega
            clear hce hcn hc
            go_wp2_with fail
            go_roundw
            case rel => exact ⟨i + 1, by omega, by go_num, trivial, NX⟩
            case measure => simp [RowKit.intOf]; omega
        · have hiL : i = L.length := by omega
          have PO := Lib.hid (PU.out i hiL HJ.out)
          go_wp2_with fail
          go_ret
          refine ⟨?_, F2.out⟩
          show Ending.returned (.string (ba L ++ (⟨#[46, 48]⟩ : ByteArray))) = _
          rw [← PO.out]
end
end Go.Proofs.YtcjkgnafpkkjmaaGreatDoor
