-- only 03
/-
  The document's Bytes: Num; Take and Num whatever is asked.
-/
import Derived.Test.YtedmhopginmjaaaBytes
namespace Go.Proofs.Ytedmhopginmjaaa.PAll
open Go.RowKit Go.Proofs.YtedmhopginmjaaaW.PrintWords Go.Proofs.YtedmhopginmjaaaW.PrintLast Go.Proofs.YtedmhopginmjaaaW.PrintMore
open Go.Proofs.Ytedmhopginmjaaa.MapInt
set_option linter.unusedVariables false
set_option linter.unusedSimpArgs false
theorem btake_calls {W0 w : World} {g : Nat} {full l : List Int} {bad : Bool} (n : Int) {s : ByteArray} {l2 : List Int} {b2 : Bool} (h : BS W0 w g full l bad) (hv : takeF l bad n = (s, l2, b2)) :
    Calls Try.prog 13 #[.pointer (some ⟨g, 0, none⟩), .int .i64 n] w fun e w' => e = .returned (.string s) ∧ BS W0 w' g full l2 b2 ∧ w.grownBy w' (some g) := by
  unfold takeF at hv
  by_cases h1 : n < 0 ∨ (l.length : Int) < n
  · rw [if_pos h1] at hv
    simp only [Prod.mk.injEq] at hv
    obtain ⟨rfl, rfl, rfl⟩ := hv
    exact btake_short W0 w g full l bad n h h1
  · rw [if_neg h1] at hv
    simp only [Prod.mk.injEq] at hv
    obtain ⟨rfl, rfl, rfl⟩ := hv
    obtain ⟨m, rfl⟩ : ∃ m : Nat, n = m := ⟨n.toNat, by omega⟩
    rw [Int.toNat_natCast]
    exact btake_ok W0 w g full l bad m h (by omega)
theorem bt_str (l : List Int) (i : Nat) (h : i < l.length) (h8 : ∀ x ∈ l, 0 ≤ x ∧ x < 256) : ((strOfNums l).data.toList.getD i 0).toNat = (rd l (i : Int)).toNat ∧ 0 ≤ rd l (i : Int) ∧ rd l (i : Int) < 256 := by
  have hm : rd l (i : Int) ∈ l := by unfold rd; simp [List.getD_eq_getElem?_getD, h]
  have hb := h8 _ hm
  refine ⟨?_, hb⟩
  rw [strOfNums_data]
  have : (List.map (fun n : Int => UInt8.ofNat n.toNat) l).getD i 0 = UInt8.ofNat (rd l (i : Int)).toNat := by
    unfold rd; simp [List.getD_eq_getElem?_getD, h]
  rw [this]
  simp; omega
set_option maxHeartbeats 8000000 in
set_option maxRecDepth 100000 in
theorem bnum_calls {W0 w : World} {g : Nat} {full l : List Int} {bad : Bool} (n : Int) {v : Int} {l2 : List Int} {b2 : Bool} (h : BS W0 w g full l bad) (hv : numF l bad n = (v, l2, b2)) :
    Calls Try.prog 11 #[.pointer (some ⟨g, 0, none⟩), .int .i64 n] w fun e w' => e = .returned (.int .u64 v) ∧ BS W0 w' g full l2 b2 ∧ w.grownBy w' (some g) := by
  unfold numF at hv
  by_cases h1 : n < 1 ∨ 8 < n
  · rw [if_pos h1] at hv
    simp only [Prod.mk.injEq] at hv
    obtain ⟨rfl, rfl, rfl⟩ := hv
    have H := Aside0.mk h
    clear h
    by_cases h2 : n < 1
    · clear h1
      go_enter Try.func11, Try.ntmps11
      go_wp2_with fail
      (try go_ret)
      exact ⟨rfl, H.out, World.grownBy.refl _ _⟩
    · have h3 : 8 < n := by omega
      clear h1
      go_enter Try.func11, Try.ntmps11
      go_wp2_with fail
      (try go_ret)
      exact ⟨rfl, H.out, World.grownBy.refl _ _⟩
  rw [if_neg h1] at hv
  have h1a : ¬ n < 1 := by omega
  have h1b : ¬ 8 < n := by omega
  have h8 : ∀ x ∈ l, 0 ≤ x ∧ x < 256 := by
    obtain ⟨A, c, t, _, _, _, _, hl⟩ := h.box
    intro x hx; rw [hl] at hx; exact h.u8 x (List.mem_of_mem_drop hx)
  clear h1
  by_cases h2 : (l.length : Int) < n
  · rw [if_pos h2] at hv
    simp only [Prod.mk.injEq] at hv
    obtain ⟨rfl, rfl, rfl⟩ := hv
    have ht : takeF l bad n = (⟨#[]⟩, [], true) := by unfold takeF; rw [if_pos (.inr h2)]
    have HT := Aside0.mk ht
    have H := Aside0.mk h
    clear h ht
    go_enter Try.func11, Try.ntmps11
    go_wp2_with (first | (go_at_call 13; (with_reducible refine (btake_calls n H.out HT.out).mono ?_); rintro e w2 ⟨rfl, hb, hg⟩; have HB := Aside0.mk hb; have HG := Aside0.mk hg; clear hb hg))
    go_loopw [6, 7] (fun v6 v7 wr => v7 = .int .i64 0 ∧ v6 = .int .u64 0 ∧ wr = w2) (fun _ _ _ => 0)
    case atStart => exact ⟨rfl, rfl, rfl⟩
    case round =>
      obtain ⟨rfl, rfl, rfl⟩ := hrel
      go_wp2_with fail
      (try go_ret)
      exact ⟨rfl, HB.out, HG.out⟩
  · rw [if_neg h2] at hv
    simp only [Prod.mk.injEq] at hv
    obtain ⟨rfl, rfl, rfl⟩ := hv
    obtain ⟨m, rfl⟩ : ∃ m : Nat, n = m := ⟨n.toNat, by omega⟩
    rw [Int.toNat_natCast]
    have ht : takeF l bad (m : Int) = (strOfNums (l.take m), l.drop m, bad) := by unfold takeF; rw [if_neg (by omega), Int.toNat_natCast]
    have HT := Aside0.mk ht
    have H := Aside0.mk h
    have H8 := Aside0.mk h8
    have hsz : (strOfNums (l.take m)).size = m := by rw [strOfNums_size, List.length_take]; omega
    clear h ht h8
    have HSZ := Aside0.mk hsz
    obtain ⟨s, hs⟩ : ∃ s, s = strOfNums (l.take m) := ⟨_, rfl⟩
    rw [← hs] at HT hsz
    have HSS := Aside0.mk hs
    clear hs
    have hsz' : (s.size : Int) = (m : Int) := by omega
    go_enter Try.func11, Try.ntmps11
    go_wp2_with (first | (go_at_call 13; (with_reducible refine (btake_calls (m : Int) H.out HT.out).mono ?_); rintro e w2 ⟨rfl, hb, hg⟩; have HB := Aside0.mk hb; have HG := Aside0.mk hg; clear hb hg))
    go_loopw [6, 7] (fun v6 v7 wr => ∃ i : Nat, i ≤ m ∧ v7 = .int .i64 i ∧ v6 = .int .u64 (numV (l.take i)) ∧ wr = w2) (fun _ v7 _ => m - (intOf v7).toNat)
    case atStart => exact ⟨0, Nat.zero_le _, rfl, rfl, rfl⟩
    case round =>
      obtain ⟨i, hi, rfl, rfl, rfl⟩ := hrel
      by_cases hlt : i < m
      · have hlt' : (i : Int) < (m : Int) := by omega
        have hTK : l.take (i + 1) = l.take i ++ [rd l (i : Int)] := by
          rw [List.take_succ_eq_append_getElem (by omega)]; unfold rd; simp [List.getD_eq_getElem?_getD, show i < l.length by omega]
        have hNB := numV_bound _ (l.take i) (Nat.le_refl _) (fun x hx => H8.out x (List.mem_of_mem_take hx))
        have HNS : Aside0 (numV (l.take (i + 1)) = numV (l.take i) * 256 + rd l (i : Int)) := ⟨by rw [hTK, numV_snoc]⟩
        rw [List.length_take, Nat.min_eq_left (by omega)] at hNB
        have hpw : (256 : Int) ^ i ≤ 256 ^ 7 := by
          exact_mod_cast Nat.pow_le_pow_right (by decide) (show i ≤ 7 by omega)
        obtain ⟨hb1, hb2, hb3⟩ := bt_str (l.take m) i (by rw [List.length_take]; omega) (fun x hx => H8.out x (List.mem_of_mem_take hx))
        have hrt : rd (l.take m) (i : Int) = rd l (i : Int) := by unfold rd; simp [List.getD_eq_getElem?_getD, hlt]
        rw [hrt, ← HSS.out] at hb1
        rw [hrt] at hb2 hb3
        generalize numV (l.take i) = X at *
        generalize rd l (i : Int) = y at *
        have hX : 0 ≤ X ∧ X < 72057594037927936 := by
          have : (256 : Int) ^ 7 = 72057594037927936 := by decide
          omega
        have HQ : Aside0 (∀ h : i < s.size, IntKind.u64.wrap (X * 256 + IntKind.u64.wrap (((s[i]'h).toNat : Nat) : Int)) = X * 256 + y) := ⟨fun h => by
          have h9 : (s[i]'h).toNat = y.toNat := by
            rw [← hb1]
            have h3 : i < s.data.toList.length := by simpa using h
            rw [List.getD_eq_getElem?_getD, List.getElem?_eq_getElem h3]
            rfl
          rw [h9, IntKind.wrap_u64, IntKind.wrap_u64]
          omega⟩
        clear hNB hpw hTK hrt hb1
        go_wp2_with fail
        go_roundw
        case rel => exact ⟨i + 1, by omega, by go_num, by rw [HNS.out, HQ.out], by first | rfl | trivial⟩
        case measure => simp [intOf]; omega
      · have hlt' : ¬ (i : Int) < (m : Int) := by omega
        obtain rfl : m = i := by omega
        go_wp2_with fail
        (try go_ret)
        exact ⟨rfl, HB.out, HG.out⟩
end Go.Proofs.Ytedmhopginmjaaa.PAll
