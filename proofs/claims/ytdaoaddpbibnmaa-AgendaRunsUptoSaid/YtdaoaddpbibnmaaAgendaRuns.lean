/- The law AgendaRuns holds for every input: the Go function returns true and leaves its argument as it was. No condition. -/
import Derived.Test.YtdaoaddpbibnmaaAgendaH
import Derived.Test.YtdaoaddpbibnmaaAgendaJ
import Derived.ProofKit
import Derived.ChangeOld
import Derived.JoinedCond
import Derived.Deep.DeepCutAuto
import Derived.Deep.CutBlock
namespace Go.Proofs.Ytdaoaddpbibnmaa.agendaRuns
open Go.ChangeShapes Go.WideShapes Go.ChangeAt Go.RowKit
set_option linter.all false
/-- The agenda, and the document's one. -/
structure Ag (B ab : Nat) (va : Value) (l : List E3) (added : Int) (b o cap n : Nat) (L : List E3) (k : Nat) (w : World) : Prop where
  a : AgAt w B ab va l added
  r : RfAt w b o (L.map E3.w2)
  m : Mir l added L
  ap : b ∉ ab :: va.ownBlock.toList
  nl : n = L.length
  cp : n ≤ cap ∧ cap ≤ maxLen
  ad : 0 ≤ added ∧ added ≤ k ∧ n ≤ k
  bb : B ≤ b
variable {B ab : Nat} {va va' : Value} {l l' : List E3} {added : Int} {b o cap n : Nat} {L : List E3} {k : Nat} {w w' : World}
theorem Ag.fr {S : List Nat} (h : Ag B ab va l added b o cap n L k w) (hF : Fr S w w') (hS : ∀ x, x ∈ S → w.heap.size ≤ x ∨ x ∉ b :: ab :: va.ownBlock.toList) : Ag B ab va l added b o cap n L k w' := by
  have hl := ag_lt h.a
  have hb := h.r.lt
  have key : ∀ x, x ∈ b :: ab :: va.ownBlock.toList → x ∉ S := fun x hx hm => by
    rcases hS x hm with h1 | h1
    · rcases List.mem_cons.1 hx with rfl | hx
      · omega
      · have := hl x hx; omega
    · exact h1 hx
  exact { h with a := h.a.fr hF (key _ (by simp)) (fun x hx => key x (by simp [hx])), r := h.r.fr hF (key _ (by simp)) }
theorem Ag.keep (h : Ag B ab va l added b o cap n L k w) (hF : Fr [] w w') : Ag B ab va l added b o cap n L k w' := h.fr hF (by simp)
theorem Ag.more (h : Ag B ab va l added b o cap n L k w) : Ag B ab va l added b o cap n L (k + 1) w := { h with ad := ⟨h.ad.1, by have := h.ad.2.1; omega, by have := h.ad.2.2; omega⟩ }
theorem Ag.ln (h : Ag B ab va l added b o cap n L k w) : l.length = n := by rw [h.nl]; exact h.m.len
theorem w2_len (L : List E3) : (L.map E3.w2).length = L.length := by simp
theorem Ag.base (h : Ag B ab va l added b o cap n L k w) : ∀ x, x ∈ b :: ab :: va.ownBlock.toList → B ≤ x := fun x hx => by
  rcases List.mem_cons.1 hx with rfl | hx
  · exact h.bb
  · exact h.a.own x hx
/-- What a word that is kept is. -/
theorem w2_at {L : List E3} {i : Nat} (hi : i < L.length) : (L.map E3.w2)[i]? = some ⟨(nth L i).t, (nth L i).w⟩ := by
  rw [List.getElem?_map, List.getElem?_eq_getElem hi, nth_is hi]; rfl
/-- One is added. -/
theorem Ag.addc {t x : Int} {w2 : World} {e : Ending} (h : Ag B ab va l added b o cap n L k w) (h1 : AddDone w B ab va l added t x e w2) (hk : n ≤ 1000) :
    e = .returned (.tuple #[]) ∧ Fr (ab :: va.ownBlock.toList) w w2 ∧ (Calls Try.prog 11 #[.slice (some ⟨b, o, none⟩) n cap, .int .i64 t, .int .u64 x] w2 fun e w3 => ∃ b' cap' va' l' L', e = .returned (.slice (some ⟨b', 0, none⟩) (n + 1) cap') ∧ Ag B ab va' l' (added + 1) b' 0 cap' (n + 1) L' (k + 1) w3 ∧ Fr [] w2 w3) := by
  obtain ⟨rfl, va', l', hp, hA, ho, hF⟩ := h1
  have hR : RfAt w2 b o (L.map E3.w2) := h.r.fr hF h.ap
  have CR := radd_c w2 b o (L.map E3.w2) cap hR (by rw [w2_len, ← h.nl]; omega) (by rw [w2_len, ← h.nl]; exact h.cp.1) h.cp.2 t x
  rw [w2_len, ← h.nl] at CR
  refine ⟨rfl, hF, CR.mono ?_⟩
  rintro e w3 ⟨b', cap', j, rfl, hb, hc1, hc2, hR', hj, hle, hgt, hF3⟩
  rw [w2_len] at hc1 hj
  have hM := h.m.add (t := t) (x := x) (k := j) hj (fun i hi => hle i _ hi (w2_at (by omega))) (fun hi => hgt _ (w2_at hi)) hp
  refine ⟨b', cap', va', l', _, by rw [w2_len, ← h.nl], ⟨?_, ?_, hM, ?_, ?_, ⟨by rw [h.nl]; exact hc1, hc2⟩, ⟨by have := h.ad.1; omega, by have := h.ad.2.1; omega, by have := h.ad.2.2; omega⟩, ?_⟩, hF3⟩
  · exact hA.fr hF3 (by simp) (by simp)
  · rw [add_w2]; exact hR'
  · intro hx
    have := ag_lt hA _ hx
    omega
  · rw [h.nl]; simp; omega
  · have h1 := h.base b (by simp)
    have h2 := h.r.lt
    have h3 := hF.size
    omega
/-- The first one goes. -/
theorem Ag.nexted {x : E3} {w2 : World} {e : Ending} (h : Ag B ab va l added b o cap n (x :: L) k w) (h1 : NextDone w B ab va l added e w2) :
    e = .returned (.tuple #[.int .i64 x.t, .int .u64 x.w, .bool true]) ∧ Fr (ab :: va.ownBlock.toList) w w2 ∧ w2.cell? ⟨b, o, none⟩ = some (.int .i64 x.t) ∧ w2.cell? ⟨b, o + 1, none⟩ = some (.int .u64 x.w) ∧
      ∃ o' va' l', Ag B ab va' l' added b o' (cap - 1) (n - 1) L (k + 1) w2 ∧ ∀ w', (Instr.slice 37 (.slice (some ⟨b, o, none⟩) n cap) (some (.int .i64 1)) none none).run Try.prog w' = .ok (.slice (some ⟨b, o', none⟩) (n - 1) (cap - 1)) w' := by
  obtain ⟨rfl, va', l', hp, hA, ho, hF⟩ := h1
  obtain ⟨hx, hM⟩ := h.m.next h.a.hp hp
  have hR : RfAt w2 b o ((x :: L).map E3.w2) := h.r.fr hF h.ap
  have hc := hR.cell (i := 0) (e := x.w2) rfl
  have hn := h.nl
  simp only [List.length_cons] at hn
  obtain ⟨o', hR', hrun⟩ := rf_from hR (k := 1) (by simp) (by rw [w2_len, ← h.nl]; exact h.cp.1)
  rw [w2_len, ← h.nl] at hrun
  refine ⟨by rw [hx], hF, ?_, ?_, o', va', l', ⟨hA, ?_, hM, ?_, by omega, ⟨by have := h.cp.1; omega, by have := h.cp.2; omega⟩, ⟨h.ad.1, by have := h.ad.2.1; omega, by have := h.ad.2.2; omega⟩, h.bb⟩, fun w' => hrun w'⟩
  · have := hc.1; rwa [Nat.zero_mul, Nat.add_zero] at this
  · have := hc.2; rwa [Nat.zero_mul, Nat.add_zero] at this
  · exact hR'
  · have := h.ap
    simp only [List.mem_cons, Option.mem_toList] at this ⊢
    rw [ho]; exact this
/-- Other words. -/
theorem Ag.putted {ws : List Int} {w2 : World} {e : Ending} {a : Option Addr} {mc : Nat} (h : Ag B ab va l added b o cap n L k w) (hwn : ws.length = n) (hk : n ≤ 1000) (hW : ∀ w', Fr [ab] w w' → WsR w' a ws) (h1 : PutDone w B ab l added ws e w2) :
    e = .returned (.bool true) ∧ Fr [ab] w w2 ∧ (Calls Try.prog 12 #[.slice (some ⟨b, o, none⟩) n cap, .slice a n mc] w2 fun e w3 => ∃ b' cap' va' l' L', e = .returned (.tuple #[.slice (some ⟨b', 0, none⟩) n cap', .bool true]) ∧ Ag B ab va' l' added b' 0 cap' n L' (k + 1) w3 ∧ Fr [] w2 w3 ∧ (∀ x, x ∈ b' :: va'.ownBlock.toList → w.heap.size ≤ x)) := by
  obtain ⟨rfl, v', l1, hp, hs, hA, ho, hF⟩ := h1
  have hL : l1 = L := h.m.uniq hp hs
  subst hL
  have hap := h.ap
  simp only [List.mem_cons, not_or] at hap
  have hR : RfAt w2 b o (l1.map E3.w2) := h.r.fr hF (by simpa using hap.1)
  have CR := rput_c w2 b o (l1.map E3.w2) cap hR (by rw [w2_len, ← h.nl]; omega) a ws mc (hW w2 hF) (by rw [w2_len, ← h.nl, hwn])
  rw [w2_len, ← h.nl] at CR
  refine ⟨rfl, hF, CR.mono ?_⟩
  rintro e w3 ⟨b', cap', rfl, hb, hc1, hc2, hR', hF3⟩
  rw [w2_len] at hc1 hR'
  have hsz := hF.size
  refine ⟨b', cap', v', _, _, by rw [w2_len, ← h.nl], ⟨hA.fr hF3 (by simp) (by simp), ?_, h.m.put ws, ?_, ?_, ⟨by rw [h.nl]; exact hc1, hc2⟩, ⟨h.ad.1, by have := h.ad.2.1; omega, by have := h.ad.2.2; omega⟩, ?_⟩, hF3, ?_⟩
  · rw [put_w2]; exact hR'
  · intro hx
    have := ag_lt hA _ hx
    omega
  · rw [len_setW]; exact h.nl
  · have h1 := h.base b (by simp)
    have h2 := h.r.lt
    omega
  · intro x hx
    rcases List.mem_cons.1 hx with rfl | hx
    · omega
    · simp only [Option.mem_toList] at hx
      exact ho x hx
theorem early (a : Option Addr) (len cap : Nat) (w : World) (hl : len ≤ maxLen) (h : 150 < len) : Calls Try.prog 4 #[.slice a len cap] w fun e w' => e = .returned (.bool true) ∧ Below w.heap.size w w' := by
  unfold maxLen at hl
  have hI : (150 : Int) < (len : Int) := by omega
  go_enter Try.func4, Try.ntmps4
  go_wp2_with (go_at_call 5; refine (agAlive_c _).mono ?_; rintro e w' ⟨rfl, F1⟩)
  go_ret
  exact ⟨rfl, F1.below⟩
set_option maxRecDepth 100000 in
set_option maxHeartbeats 8000000 in
theorem main (a : Option Addr) (len cap0 : Nat) (N : Nat → A17) (w : World) (hl : len ≤ 150) (hN : IsActs17 w a len cap0 N) (hS : ∀ i, i < len → (N i).n ≤ 1048576) :
    Calls Try.prog 4 #[.slice a len cap0] w fun e w' => e = .returned (.bool true) ∧ Below w.heap.size w w' := by
  have HN := Lib.hid hN
  have HS := Lib.hid hS
  have hcap := hN.2.2.1
  have hlI : ¬ (150 : Int) < (len : Int) := by omega
  obtain ⟨B, hB⟩ : ∃ B, B = w.heap.size := ⟨_, rfl⟩
  have HB := Lib.hid hB
  clear hN hB hS
  go_enter Try.func4, Try.ntmps4
  go_wp2_with fail
  refine (agAlive_c _).mono ?_
  rintro e w0 ⟨rfl, F0⟩
  go_wp2_with fail
  refine (gnew_c _).mono ?_
  rintro e w1 ⟨rfl, hw1⟩
  have A1 := AgAt.new w0 B (by rw [HB.out]; exact F0.size)
  rw [← hw1] at A1
  have hab : w0.heap.size < w1.heap.size := lt_size A1.p
  have hB0 : B ≤ w0.heap.size := by rw [HB.out]; exact F0.size
  have G0 : Hid (Ag B w0.heap.size (.slice none 0 0) [] 0 w1.heap.size 0 0 0 [] 0 (w1.alloc (.cells #[] 42))) := Lib.hid ⟨A1.fr ((Fr.refl [] w1).alloc _) (by simp) (by simp), ⟨by simp [size_alloc], fun i u hu => by simp [rpCells] at hu⟩, Mir.none, by simp [Value.ownBlock]; omega, rfl, ⟨Nat.le_refl _, by unfold maxLen; omega⟩, ⟨by omega, by omega, by omega⟩, by omega⟩
  have F1 : Hid (Fr [] w (w1.alloc (.cells #[] 42))) := Lib.hid (by rw [hw1]; exact (F0.alloc _).alloc _)
  obtain ⟨ab, habe⟩ : ∃ ab, ab = w0.heap.size := ⟨_, rfl⟩
  rw [← habe] at G0 ⊢
  obtain ⟨b0, hbe⟩ : ∃ b0, b0 = w1.heap.size := ⟨_, rfl⟩
  rw [← hbe] at G0
  have HBE := Lib.hid hbe
  clear hw1 A1 F0 hab hB0 habe
  go_wp2_with fail
  rw [← HBE.out]
  clear hbe HBE
  go_loopw [4, 26] (fun q u wr => ∃ (k : Nat) (va : Value) (l : List E3) (added : Int) (b o cap n : Nat) (L : List E3), k ≤ len ∧ u = .int .i64 (k : Int) ∧ q = .slice (some ⟨b, o, none⟩) n cap ∧ Hid (Ag B ab va l added b o cap n L k wr) ∧ Hid (Fr [] w wr)) (fun _ u _ => len - (intOf u).toNat)
  case atStart => exact ⟨0, _, _, _, b0, 0, 0, 0, _, by omega, by go_num, rfl, G0, F1⟩
  case round =>
    obtain ⟨k, va, l, added, b, o, cap, n, L, hk, rfl, rfl, G, F⟩ := hrel
    clear G0 F1
    by_cases hlt : k < len
    · obtain ⟨tb, tq, rfl⟩ : ∃ tb tq, a = some ⟨tb, tq, none⟩ := by
        rcases HN.out.1 with h | ⟨b, o, h, _⟩
        · omega
        · exact ⟨b, o, h⟩
      obtain ⟨a0, a1, a2, a3, hab, hin⟩ := acts17_at HN.out F.out k hlt
      have hsz : tb < wr.heap.size := by have := F.out.size; omega
      have hne : tb ≠ wr.heap.size := by omega
      have hsm := HS.out k hlt
      obtain ⟨rd, rln, rcap, rmax⟩ := hin
      obtain ⟨K, hK⟩ : ∃ K, K = (N k).k := ⟨_, rfl⟩
      obtain ⟨t, ht⟩ : ∃ t, t = (N k).t := ⟨_, rfl⟩
      obtain ⟨x, hx⟩ : ∃ x, x = (N k).x := ⟨_, rfl⟩
      obtain ⟨la, hla⟩ : ∃ la, la = (N k).a := ⟨_, rfl⟩
      obtain ⟨ln, hln⟩ : ∃ ln, ln = (N k).n := ⟨_, rfl⟩
      obtain ⟨lc, hlc⟩ : ∃ lc, lc = (N k).cap := ⟨_, rfl⟩
      obtain ⟨ws, hws⟩ : ∃ ws, ws = (N k).ws := ⟨_, rfl⟩
      rw [← hK] at a0
      rw [← ht] at a1
      rw [← hx] at a2
      rw [← hla, ← hln, ← hlc] at a3
      rw [← hla, ← hws] at rd
      rw [← hws, ← hln] at rln
      rw [← hln, ← hlc] at rcap
      rw [← hlc] at rmax
      rw [← hln] at hsm
      have RD := Lib.hid rd
      have RDW := Lib.hid (HN.out.2.1 k hlt).rd
      rw [← hla, ← hws] at RDW
      have RL := Lib.hid rln
      have rmax2 : lc ≤ 9223372036854775807 := by unfold maxLen at rmax; omega
      have hn150 : n ≤ 150 := by have := G.out.ad.2.2; omega
      have ha150 : 0 ≤ added ∧ added ≤ 150 := by have := G.out.ad; omega
      have hk1 := G.out.cp.1
      have hc2 : cap ≤ 9223372036854775807 := by have := G.out.cp.2; unfold maxLen at this; omega
      have HLN := Lib.hid G.out.ln
      have HBS : Hid (B ≤ wr.heap.size) := Lib.hid (by rw [HB.out]; exact F.out.size)
      have FBX := Lib.hid ((Fr.refl [] wr).alloc (.cells #[.int .i64 K, .int .i64 t, .int .u64 x, .slice la ln lc] 39))
      have PB := Lib.hid (show blk (wr.alloc (.cells #[.int .i64 K, .int .i64 t, .int .u64 x, .slice la ln lc] 39)) wr.heap.size = some (.cells #[.int .i64 K, .int .i64 t, .int .u64 x, .slice la ln lc] 39 (0, 0)) from by rw [blk_alloc, if_pos rfl])
      have GB := Lib.hid (G.out.keep FBX.out)
      have PN : Hid (wr.heap.size ∉ ab :: va.ownBlock.toList) := Lib.hid (fun hm => by have := ag_lt G.out.a _ hm; omega)
      have FBD := Lib.hid (F.out.same FBX.out)
      clear hK ht hx hla hln hlc hws rd rln rmax HS
      obtain ⟨pb, hpb⟩ : ∃ pb, pb = wr.heap.size := ⟨_, rfl⟩
      rw [← hpb] at PB PN hne
      go_upto_block 2 with fail
      rw [← hpb]
      clear hpb
      generalize wr.alloc (.cells #[.int .i64 K, .int .i64 t, .int .u64 x, .slice la ln lc] 39) = wb at *
      go_cut [4] (fun q wx => ∃ (va : Value) (l : List E3) (added : Int) (b o cap n : Nat) (L : List E3), q = .slice (some ⟨b, o, none⟩) n cap ∧ Hid (Ag B ab va l added b o cap n L (k + 1) wx) ∧ Hid (Fr [] w wx))
      case first =>
        by_cases hK0 : K = 0
        · have CA := Lib.hid (add_c _ B ab va l added GB.out.a (Nat.le_trans HBS.out FBX.out.size) (by have := HLN.out; omega) ha150.1 (by omega) t x)
          have kb : (K == 0) = true := by simpa using hK0
          have HK0 := Lib.hid hK0
          clear hK0
          have b1 := cell_of PB.out (i := 1) rfl
          have b2 := cell_of PB.out (i := 2) rfl
          go_wp2_with fail
          refine CA.out.mono ?_
          intro e w2 hD
          obtain ⟨he, F2, CR⟩ := GB.out.addc hD (by omega)
          subst he
          have PB2 := F2.at PB.out PN.out
          have d1 := cell_of PB2 (i := 1) rfl
          have d2 := cell_of PB2 (i := 2) rfl
          have F2 := Lib.hid (FBD.out.trans F2 (fun y hy => .inr (by rw [← HB.out]; exact GB.out.a.own y hy)))
          clear hD PB2 b1 b2
          go_wp2_with fail
          refine CR.mono ?_
          rintro e w3 ⟨b', cap', va', l', L', rfl, G3, F3⟩
          have G3 := Lib.hid G3
          have F3 := Lib.hid (F2.out.same F3)
          go_wp2_with fail
          go_meet
          exact ⟨va', l', added + 1, b', 0, cap', n + 1, L', rfl, G3, F3⟩
        by_cases hK1 : K = 1
        · have kb : (K == 0) = false := by simpa using hK0
          have kc : (K == 1) = true := by simpa using hK1
          have HK1 := Lib.hid hK1
          clear hK1
          by_cases hn0 : n = 0
          · have hL0 : L = [] := List.eq_nil_of_length_eq_zero (by rw [← G.out.nl]; exact hn0)
            subst hL0
            have hl0 : l = [] := mir_nil G.out.m
            subst hl0
            have CN := Lib.hid (next_none _ B ab va added GB.out.a)
            have hn1 : ¬ (0 : Int) < (n : Int) := by omega
            have HN0 := Lib.hid hn0
            clear hn0
            go_wp2_with fail
            refine CN.out.mono ?_
            rintro e w2 ⟨rfl, rfl⟩
            go_wp2_with fail
            go_meet
            exact ⟨va, [], added, b, o, cap, 0, [], rfl, Lib.hid (by have := GB.out.more; rwa [HN0.out] at this), FBD⟩
          · obtain ⟨x0, L0, rfl⟩ : ∃ x0 L0, L = x0 :: L0 := by
              have := G.out.nl
              cases L with
              | nil => simp at this; omega
              | cons x0 L0 => exact ⟨x0, L0, rfl⟩
            have CN := Lib.hid (next_c _ B ab va l added GB.out.a (n - 1) (by rw [HLN.out]; omega) (by omega))
            have hn1 : (0 : Int) < (n : Int) := by omega
            have hn2 : 0 < n := by omega
            go_wp2_with fail
            refine CN.out.mono ?_
            intro e w2 hD
            obtain ⟨he, F2, d0, d1, o', va', l', G2, RUN⟩ := GB.out.nexted hD
            subst he
            have F2 := Lib.hid (FBD.out.trans F2 (fun y hy => .inr (by rw [← HB.out]; exact GB.out.a.own y hy)))
            have G2 := Lib.hid G2
            obtain ⟨xt, hxt⟩ : ∃ xt, xt = x0.t := ⟨_, rfl⟩
            obtain ⟨xw, hxw⟩ : ∃ xw, xw = x0.w := ⟨_, rfl⟩
            rw [← hxt] at d0 ⊢
            rw [← hxw] at d1 ⊢
            clear hD hxt hxw
            go_wp2_with fail
            go_meet
            exact ⟨va', l', added, b, o', cap - 1, n - 1, L0, rfl, G2, F2⟩
        by_cases hK2 : K = 2
        · have kb : (K == 0) = false := by simpa using hK0
          have kc : (K == 1) = false := by simpa using hK1
          have kd : (K == 2) = true := by simpa using hK2
          have HKK := Lib.hid (And.intro hK0 (And.intro hK1 hK2))
          clear hK0 hK1 hK2
          have b3 := cell_of PB.out (i := 3) rfl
          have hpbl : pb < wb.heap.size := lt_size PB.out
          have OW : Hid ((wb.alloc (.cells #[] 29)).ownsRow wb.heap.size 29 1 (.slice (some ⟨wb.heap.size, 0, none⟩) 0 0) 0 []) := Lib.hid (own_mk (cur := #[]) (by rw [blk_alloc, if_pos rfl]) (Nat.le_refl _) (Nat.le_refl _) (Nat.zero_le _) rfl rfl)
          have F4 := Lib.hid ((Fr.refl [] wb).alloc (.cells #[] 29))
          have NL : Hid ((ws.map (Value.int .u64)).length = ln * 1) := Lib.hid (by rw [List.length_map, RL.out, Nat.mul_one])
          have NW : Hid (ln = 0 ∨ ∃ ad, la = some ad ∧ ∀ (j : Nat) u, (ws.map (Value.int .u64))[j]? = some u → (wb.alloc (.cells #[] 29)).cell? (ad.add j) = some u) := Lib.hid (by
            rcases RD.out.keep (FBX.out.same F4.out) (by simp) with h | ⟨q, r, h1, h2, h3⟩
            · left; rw [← RL.out, h]; rfl
            · right
              refine ⟨_, h1, fun j u hu => ?_⟩
              simp only [List.getElem?_map, Option.map_eq_some_iff] at hu
              obtain ⟨z, hz, rfl⟩ := hu
              have hjl : j < ws.length := by
                rcases Nat.lt_or_ge j ws.length with h | h
                · exact h
                · rw [List.getElem?_eq_none h] at hz; simp at hz
              rw [Addr.add_lit, h3 j hjl, hz]; rfl)
          have ONE : Hid (∀ u ∈ ws.map (Value.int .u64), u.oneCell' = true) := Lib.hid (by
            intro u hu
            simp only [List.mem_map] at hu
            obtain ⟨z, _, rfl⟩ := hu; rfl)
          obtain ⟨i0, hi, hz0, hz1, hz2⟩ := info_parts info_word17
          have II := Lib.hid hi
          have Z0 := Lib.hid hz0
          have Z1 := Lib.hid hz1
          have Z2 := Lib.hid hz2
          clear hi hz0 hz1 hz2
          go_wp2_with (at_builtin; refine wpList_appO _ rfl _ _ _ rfl wb.heap.size 29 i0 (.int .u64 0) 1 8 Try.underlying26 II.out Z0.out Z1.out Z2.out rfl (by decide) wb.heap.size 0 0 [] rfl OW.out la ln lc (ws.map (.int .u64)) rfl NL.out NW.out ONE.out (by unfold maxLen; omega) (by omega) F4.out.size ?_; intro g1 c1 w5 own5 fr5 at5; rw [Nat.zero_add, List.nil_append] at own5; rw [Nat.zero_add]; have OW5 := Lib.hid own5; have F5 := Lib.hid (F4.out.trans fr5 (fun x hx => .inr (by simp only [List.mem_singleton] at hx; omega))); clear own5 fr5 at5 OW NL NW ONE F4 II Z0 Z1 Z2)
          have G5 := Lib.hid (GB.out.keep F5.out)
          have hg1b := own_base OW5.out
          have hg1l := own_lt OW5.out
          have HWB : Hid (w.heap.size ≤ wb.heap.size) := Lib.hid FBD.out.size
          have HOLD : Hid (∀ x, x ∈ b :: ab :: va.ownBlock.toList → x < wb.heap.size) := Lib.hid (fun x hx => by
            rcases List.mem_cons.1 hx with rfl | hx
            · exact GB.out.r.lt
            · exact ag_lt GB.out.a x hx)
          have PB5 := Lib.hid (F5.out.at PB.out (by simp))
          have FD5 := Lib.hid (FBD.out.same F5.out)
          by_cases hln : ln = n
          · subst hln
            have CP := Lib.hid (put_c w5 B ab va l added G5.out.a (by have := HBS.out; have := FBX.out.size; have := F5.out.size; omega) (by have := HLN.out; omega) (some ⟨g1, 0, none⟩) ln c1 ws (.inr ⟨g1, 0, rfl, hg1l, fun i hi => by rw [Nat.zero_add]; exact own_cell OW5.out (by simp [hi])⟩) RL.out HLN.out)
            have WK : Hid (∀ w', Fr [ab] w5 w' → WsR w' la ws) := Lib.hid (fun w' hF => by
              rcases RDW.out with h | ⟨q, r, h1, h2, h3⟩
              · exact .inl h
              · have hq : q ≠ ab := by have := GB.out.a.lo; have := HB.out; omega
                have hR : WsR w5 la ws := WsR.keep (.inr ⟨q, r, h1, h2, h3⟩) FD5.out (by simp)
                exact hR.keep hF (fun b2 o2 he => by
                  rw [h1] at he
                  simp only [Option.some.injEq, Addr.mk.injEq] at he
                  simp only [List.mem_singleton]
                  omega))
            clear b3
            go_wp2_with fail
            refine CP.out.mono ?_
            intro e w6 hD
            obtain ⟨he, F6, CR⟩ := G5.out.putted (a := la) (mc := lc) RL.out (by omega) WK.out hD
            subst he
            have habp : ab ≠ pb := fun h => PN.out (by rw [← h]; simp)
            have PB6 := F6.at PB5.out (by simp; exact Ne.symm habp)
            have d3 := cell_of PB6 (i := 3) rfl
            have hga : g1 ≠ ab := by have := HOLD.out ab (by simp); omega
            have O6 := Lib.hid (own_fr OW5.out F6 (by simp [Value.ownBlock]; exact hga))
            have FD6 := Lib.hid (FD5.out.trans F6 (fun y hy => .inr (by simp only [List.mem_singleton] at hy; rw [hy, ← HB.out]; exact GB.out.a.lo)))
            clear hD PB6 CP WK OW5 F6
            go_wp2_with fail
            refine CR.mono ?_
            rintro e w7 ⟨b', cap', va', l', L', rfl, G7, F7, H7⟩
            have OX := Lib.hid (own_fr O6.out F7 (by simp))
            have GX := Lib.hid G7
            have FX := Lib.hid (FD6.out.same F7)
            have HG1 : Hid (g1 ∉ b' :: ab :: va'.ownBlock.toList) := Lib.hid (fun hm => by
              simp only [List.mem_cons] at hm
              rcases hm with hm | hm | hm
              · have := H7 g1 (by simp [hm]); omega
              · exact hga hm
              · have := H7 g1 (by simp [hm]); omega)
            clear G7 F7 H7 O6 FD6 d3 CR
            have hlc1 := own_cap OX.out
            have hg1 : g1 ∉ b' :: ab :: va'.ownBlock.toList := HG1.out
            go_wp2_with fail
            go_loopw [14, 112] (fun _ u wr2 => ∃ (j : Nat) (xs : List Value), j ≤ ln ∧ u = .int .i64 (j : Int) ∧ Hid (wr2.ownsRow wb.heap.size 29 1 (.slice (some ⟨g1, 0, none⟩) ln c1) ln xs) ∧ Hid (∀ v, v ∈ xs → ∃ z : Int, v = .int .u64 z) ∧ Hid (Ag B ab va' l' added b' 0 cap' ln L' (k + 1) wr2) ∧ Hid (Fr [] w wr2)) (fun _ u _ => ln - (intOf u).toNat)
            case atStart => exact ⟨0, _, by omega, by go_num, OX, Lib.hid (fun v hv => by simp only [List.mem_map] at hv; obtain ⟨z, _, rfl⟩ := hv; exact ⟨z, rfl⟩), GX, FX⟩
            case round =>
              obtain ⟨j, xs, hj, rfl, OJ, XJ, GJ, FJ⟩ := hrel
              clear OX GX FX
              by_cases hjl : j < ln
              · have hxl := own_len OJ.out
                rw [Nat.mul_one] at hxl
                obtain ⟨y, hy⟩ : ∃ y : Int, xs[j]? = some (.int .u64 y) := by
                  obtain ⟨z, hz⟩ := XJ.out (xs[j]'(by omega)) (List.getElem_mem _)
                  exact ⟨z, by rw [List.getElem?_eq_getElem (by omega), hz]⟩
                have d0 := own_cell OJ.out hy
                have f0 := own_free OJ.out j
                have hbg := own_base OJ.out
                clear hxl hy
                go_wp2
                go_roundw
                case rel => exact ⟨j + 1, _, by omega, by go_num, Lib.hid (own_set OJ.out j _), Lib.hid (fun v hv => by
                  rcases List.mem_or_eq_of_mem_set hv with hv | hv
                  · exact XJ.out v hv
                  · exact ⟨_, hv⟩), Lib.hid (GJ.out.fr ((Fr.refl [g1] _).setCell (by simp) _) (fun x hx => .inr (by simp only [List.mem_singleton] at hx; rw [hx]; exact hg1))), Lib.hid (FJ.out.setCell (.inr (Nat.le_trans HWB.out hbg)) _)⟩
                case measure => simp [intOf]; omega
              · have HJL := Lib.hid hjl
                clear OJ XJ
                go_wp2_with fail
                go_meet
                exact ⟨va', l', added, b', 0, cap', ln, L', rfl, GJ, FJ⟩
          · have CP := Lib.hid (put_no w5 B ab va l added G5.out.a (some ⟨g1, 0, none⟩) ln c1 (by rw [HLN.out]; exact hln))
            have CQ : Hid (∀ w6, Calls Try.prog 12 #[.slice (some ⟨b, o, none⟩) n cap, .slice la ln lc] w6 fun e w' => e = .returned (.tuple #[.slice (some ⟨b, o, none⟩) n cap, .bool false]) ∧ w6 = w') := Lib.hid (fun w6 => rput_no w6 b o n cap la ln lc hln)
            have HLE := Lib.hid hln
            have d3 := cell_of PB5.out (i := 3) rfl
            clear b3 hln
            go_wp2_with fail
            refine CP.out.mono ?_
            rintro e w6 ⟨rfl, rfl⟩
            go_wp2_with fail
            refine (CQ.out _).mono ?_
            rintro e w6 ⟨rfl, rfl⟩
            have OX := OW5
            have GX := Lib.hid G5.out.more
            have FX := FD5
            have HG1 : Hid (g1 ∉ b :: ab :: va.ownBlock.toList) := Lib.hid (fun hm => by have := HOLD.out g1 hm; omega)
            clear d3 CP CQ OW5 G5
            have hlc1 := own_cap OX.out
            have hg1 : g1 ∉ b :: ab :: va.ownBlock.toList := HG1.out
            go_wp2_with fail
            go_loopw [14, 112] (fun _ u wr2 => ∃ (j : Nat) (xs : List Value), j ≤ ln ∧ u = .int .i64 (j : Int) ∧ Hid (wr2.ownsRow wb.heap.size 29 1 (.slice (some ⟨g1, 0, none⟩) ln c1) ln xs) ∧ Hid (∀ v, v ∈ xs → ∃ z : Int, v = .int .u64 z) ∧ Hid (Ag B ab va l added b o cap n L (k + 1) wr2) ∧ Hid (Fr [] w wr2)) (fun _ u _ => ln - (intOf u).toNat)
            case atStart => exact ⟨0, _, by omega, by go_num, OX, Lib.hid (fun v hv => by simp only [List.mem_map] at hv; obtain ⟨z, _, rfl⟩ := hv; exact ⟨z, rfl⟩), GX, FX⟩
            case round =>
              obtain ⟨j, xs, hj, rfl, OJ, XJ, GJ, FJ⟩ := hrel
              clear OX GX FX
              by_cases hjl : j < ln
              · have hxl := own_len OJ.out
                rw [Nat.mul_one] at hxl
                obtain ⟨y, hy⟩ : ∃ y : Int, xs[j]? = some (.int .u64 y) := by
                  obtain ⟨z, hz⟩ := XJ.out (xs[j]'(by omega)) (List.getElem_mem _)
                  exact ⟨z, by rw [List.getElem?_eq_getElem (by omega), hz]⟩
                have d0 := own_cell OJ.out hy
                have f0 := own_free OJ.out j
                have hbg := own_base OJ.out
                clear hxl hy
                go_wp2
                go_roundw
                case rel => exact ⟨j + 1, _, by omega, by go_num, Lib.hid (own_set OJ.out j _), Lib.hid (fun v hv => by
                  rcases List.mem_or_eq_of_mem_set hv with hv | hv
                  · exact XJ.out v hv
                  · exact ⟨_, hv⟩), Lib.hid (GJ.out.fr ((Fr.refl [g1] _).setCell (by simp) _) (fun x hx => .inr (by simp only [List.mem_singleton] at hx; rw [hx]; exact hg1))), Lib.hid (FJ.out.setCell (.inr (Nat.le_trans HWB.out hbg)) _)⟩
                case measure => simp [intOf]; omega
              · have HJL := Lib.hid hjl
                clear OJ XJ
                go_wp2_with fail
                go_meet
                exact ⟨va, l, added, b, o, cap, n, L, rfl, GJ, FJ⟩
        · have kb : (K == 0) = false := by simpa using hK0
          have kc : (K == 1) = false := by simpa using hK1
          have kd : (K == 2) = false := by simpa using hK2
          have HKK := Lib.hid (And.intro hK0 (And.intro hK1 hK2))
          clear hK0 hK1 hK2
          go_wp2_with fail
          go_meet
          exact ⟨va, l, added, b, o, cap, n, L, rfl, Lib.hid GB.out.more, FBD⟩
      case rest =>
        obtain ⟨va, l, added, b, o, cap, n, L, rfl, G, F⟩ := hcut
        have hn151 : n ≤ 151 := by have := G.out.ad.2.2; omega
        have HLN := Lib.hid G.out.ln
        have CW := Lib.hid (words_c wc B ab va l added G.out.a (by rw [HLN.out]; omega))
        have hk1 := G.out.cp.1
        have hc2 : cap ≤ 9223372036854775807 := by have := G.out.cp.2; unfold maxLen at this; omega
        go_wp2_with fail
        refine CW.out.mono ?_
        rintro e w8 ⟨v8, L8, rfl, hp8, hs8, OW8, F8⟩
        have hL8 : L8 = L := G.out.m.uniq hp8 hs8
        subst hL8
        have hnl := G.out.nl
        rw [← hnl] at OW8
        have vf : ∃ a8 c8, v8 = .slice a8 n c8 := by
          rcases OW8.2 with ⟨hv, hl2⟩ | ⟨g, cp, cur, hv, _⟩
          · exact ⟨none, 0, by rw [hv, hl2]⟩
          · exact ⟨some ⟨g, 0, none⟩, cp, hv⟩
        obtain ⟨a8, c8, rfl⟩ := vf
        have G8 := Lib.hid (G.out.keep F8)
        have CG := Lib.hid (glen_c w8 B ab va l added G8.out.a)
        have OW8 := Lib.hid OW8
        have FF8 := Lib.hid (F.out.same F8)
        have HNL := Lib.hid hnl
        clear CW hp8 hs8 F8 hnl
        rw [HLN.out] at CG
        go_wp2_with fail
        refine CG.out.mono ?_
        rintro e w9 ⟨rfl, rfl⟩
        clear CG
        go_wp2_with fail
        go_loopw [16, 141] (fun _ u wr2 => ∃ j : Nat, j ≤ n ∧ u = .int .i64 (j : Int) ∧ Hid (Fr [] w8 wr2)) (fun _ u _ => n - (intOf u).toNat)
        case atStart => exact ⟨0, by omega, by go_num, Lib.hid (Fr.refl _ _)⟩
        case round =>
          obtain ⟨j, hj, rfl, FJ⟩ := hrel
          by_cases hjl : j < n
          · have hjL : j < L8.length := by rw [← HNL.out]; exact hjl
            obtain ⟨g8, rfl⟩ : ∃ g8, a8 = some ⟨g8, 0, none⟩ := by
              rcases OW8.out.2 with ⟨hv, hl2⟩ | ⟨g, cp, cur, hv, _⟩
              · omega
              · simp only [Value.slice.injEq, true_and] at hv
                exact ⟨g, hv.1⟩
            have hcp := (own_cap OW8.out).1
            have d0 := own_cell (own_fr OW8.out FJ.out (by simp)) (i := j) (u := .int .u64 (nth L8 j).w) (by unfold wordsOf; rw [List.getElem?_map, List.getElem?_eq_getElem hjL, nth_is hjL]; rfl)
            have d1 := ((G8.out.r.fr FJ.out (by simp)).cell (w2_at hjL)).2
            obtain ⟨y, hy⟩ : ∃ y, y = (nth L8 j).w := ⟨_, rfl⟩
            simp only at d1
            rw [← hy] at d0 d1
            clear hy hjL
            go_wp2
            go_region
            go_wp2
            go_roundw
            case rel => exact ⟨j + 1, by omega, by go_num, Lib.hid FJ.out.drew⟩
            case measure => simp [intOf]; omega
          · have HJL := Lib.hid hjl
            have GN := Lib.hid (G8.out.keep FJ.out)
            have FN := Lib.hid (FF8.out.same FJ.out)
            clear G8 OW8 FJ
            go_wp2
            go_roundw
            case rel => exact ⟨k + 1, va, l, added, b, o, cap, n, L8, by omega, by go_num, rfl, GN, FN⟩
            case measure => simp [intOf]; omega
    · have F2 := Lib.hid F.out.below
      have hlt := Lib.hid hlt
      clear F G
      go_wp2
      go_ret
      exact ⟨rfl, F2.out⟩
theorem walk {H : Type} {d : DataW H} (a : Option Addr) (len cap : Nat) (N : Nat → A17) (w : World) (hN : IsActs17 w a len cap N ∧ ∀ i, i < len → (N i).n ≤ Rows.uptoBulk d) (hb : Rows.uptoBulkAll [d] ≤ 1048576) :
    Calls Try.prog 4 #[.slice a len cap] w fun e w' => e = .returned (.bool true) ∧ Below w.heap.size w w' := by
  by_cases h : 150 < len
  · exact early a len cap w (Nat.le_trans hN.1.2.2.1 hN.1.2.2.2) h
  · exact main a len cap N w (by omega) hN.1 (fun i hi => Nat.le_trans (hN.2 i hi) (by have h1 := bulk_mem (l := [d]) (d := d) (by simp); omega))
theorem own : ownKnob Try.prog.godebug = none := by kernel_rfl
theorem laidOut : laidOutB Try.prog = true := by kernel_rfl
set_option maxRecDepth 100000 in
theorem lifted (os : Os) (started : os.Started) (H : Type) (enc : TypeId × Value → H) (F0 : Stop.Interp) :
    ReturnsInHanded {} Try.checked os 4 .any ((Rows.OpenSpec.upto Rows.agendaRunsSpec).pre6 enc Try.prog Try.f4 Rows.agendaRunsUptoRow.domain false) (((Rows.OpenSpec.upto Rows.agendaRunsSpec).at F0).post enc Try.prog Try.f4 false true false false) := by
  refine returnsInHanded_of_cond (C := Try.checked) (s := Rows.OpenSpec.upto Rows.agendaRunsSpec) (k := Rows.uptoSmall) rfl own started (by kernel_rfl) Try.func4
    (OpenSpec.witness (enc := enc) (C := Try.checked) (s := Rows.OpenSpec.upto Rows.agendaRunsSpec) (k := Rows.uptoSmall) rfl false ⟨#[], #[.slice none 0 0], []⟩ 8 (by kernel_rfl) (by kernel_rfl) (by kernel_rfl)
      (x := ([.nil], [], [])) (by kernel_rfl) (by kernel_rfl) (by kernel_rfl)) ?_
  intro W base args ds gs before hval0 hW hcnd hk _
  have hval : ∀ (j : Nat) t v, Try.f4.params[j]? = some t → args[j]? = some v → Value.okWide Try.prog W .any base t v := hval0
  have hW' := hW
  obtain ⟨p, q, hA0, hV, rfl, hfz, hnd⟩ := hW
  have hA : DataW.TrodAll enc Try.prog W 0 (fun _ => true) true Try.f4.params.toList args.toList ds p := hA0
  rw [Try.params4] at hA hval
  obtain ⟨v0, vs0, d0, ds0, p0, q0, hargs, rfl, rfl, h0, r0⟩ := trodAll_cons hA
  obtain ⟨rfl, rfl, rfl⟩ := trodAll_nil r0
  obtain rfl : args = #[v0] := by cases args; simp_all
  obtain ⟨rfl, rfl⟩ := trodVars_none hV
  obtain ⟨a0, len0, cap0, rfl⟩ := okWide_slice Try.underlying35 (hval 0 35 v0 rfl rfl)
  have k0 := h0
  have lt0 : ∀ x ∈ p0, x.block < W.heap.size := by obtain ⟨m, hm⟩ := k0; exact DataW.trod_lt m _ _ _ hm
  obtain ⟨z0, w0⟩ := opener17 h0
  have hb : Rows.uptoBulkAll [d0] ≤ 1048576 := of_decide_eq_true hk
  clear hA0 hval0
  refine (walk a0 len0 cap0 z0 W w0 hb).mono fun e W' ⟨he, bel⟩ => ?_
  subst he
  exact ⟨_, rfl, _, _, _, [], _, [], hW', trodAll_mk1 (shut_bool Try.underlying4 _), (trodAll_cons_mk (Below.trod laidOut (by kernel_rfl) (of_decide_eq_true (by kernel_rfl)) k0 bel lt0) trodAll_mk0), rfl, bel.frame _, fun h => by cases h⟩
theorem over : Rows.agendaRunsUptoRow.holds Try.pinned (Rows.OpenSpec.upto Rows.agendaRunsSpec) :=
  OpenClaim.holds_of_cond 4 Try.f4 rfl rfl rfl rfl rfl rfl rfl ⟨rfl, rfl, rfl, rfl, rfl⟩ rfl rfl rfl rfl rfl (by kernel_rfl) Try.func4 (by kernel_rfl)
    (of_decide_eq_true (by kernel_rfl)) (by unfold Func.isWrapper; first | (rw [if_pos (by decide +kernel)]; kernel_rfl) | (rw [if_neg (by decide +kernel)]; exact ⟨rfl, rfl⟩))
    (fun os started H enc _ F0 => lifted os started H enc F0)
/-- THE STATEMENT -/
theorem proved : Rows.AgendaRunsUptoSaid := over
#print axioms proved
end Go.Proofs.Ytdaoaddpbibnmaa.agendaRuns
