/-
  Places.Set.
-/
import Derived.Test.YtjolnfhgiddafaaPlaces
namespace Go.Proofs.Ytjolnfhgiddafaa.PAll
open Go.RowKit Go.Proofs.YtjolnfhgiddafaaW.PrintWords Go.Proofs.YtjolnfhgiddafaaW.PrintLast Go.Proofs.YtjolnfhgiddafaaW.PrintMore
open Go.Proofs.Ytjolnfhgiddafaa.MapInt Go.Proofs.Ytjolnfhgiddafaa.Moves
set_option linter.unusedVariables false
set_option linter.unusedSimpArgs false
set_option maxHeartbeats 8000000 in
set_option maxRecDepth 100000 in
theorem set_calls (W0 w : World) (b : Nat) (vA vH : Value) (ats hs : List Int) (x v : Int) (h : PL W0 w b vA vH ats hs) (hs9 : ats.length ≤ 1000000) :
    Calls Try.prog 12 #[.pointer (some ⟨b, 0, none⟩), .int .i64 x, .int .i64 v] w fun e w' => e = .returned (.tuple #[]) ∧ ∃ vA' vH' ats' hs', PL W0 w' b vA' vH' ats' hs' ∧ (∀ y, tellP ats' hs' y = if y = x then v else tellP ats hs y) ∧ ats'.length ≤ ats.length + 1 := by
  obtain ⟨A, c, rfl⟩ := MapInt.own_slice' h.rA
  obtain ⟨A', c', rfl⟩ := MapInt.own_slice' h.rH
  have hb0 : w.cell? ⟨b, 0, none⟩ = some (.slice A ats.length c) := h.hB.cell rfl
  have hb1 : w.cell? ⟨b, 1, none⟩ = some (.slice A' hs.length c') := h.hB.cell rfl
  have H := Aside0.mk h
  have HL := Aside0.mk h.len
  have hh9 : hs.length ≤ 1000000 := by have := h.len; omega
  clear h
  go_enter Try.func12, Try.ntmps12
  go_wp2_with fail
  go_loopw [6] (fun v5 wr => ∃ i : Nat, i ≤ ats.length ∧ v5 = .int .i64 i ∧ wr = w ∧ Aside0 (∀ j (hj : j < ats.length), j < i → ats[j] ≠ x)) (fun v5 _ => ats.length - (intOf v5).toNat)
  case atStart => exact ⟨0, Nat.zero_le _, rfl, rfl, ⟨fun j _ hj => by omega⟩⟩
  case round =>
    obtain ⟨i, hi, rfl, rfl, HJ⟩ := hrel
    by_cases hlt : i < ats.length
    · have hlt' : (i : Int) < (ats.length : Int) := by omega
      have hlh' : (i : Int) < (hs.length : Int) := by have := HL.out; omega
      obtain ⟨ad, rfl, hc0⟩ := Kd.at_int (H.out.cA).2.2 (i : Int) (by omega) hlt'
      rw [Int.toNat_natCast] at hc0
      rw [rdAt ats i hlt] at hc0
      by_cases hx : ats[i] = x
      · have HT := Aside0.mk (tellP_set ats hs x v i hlt HL.out hx (fun j hj => HJ.out j (by omega) hj))
        rw [hx] at hc0
        clear hx
        obtain ⟨g, cap, e, hcap, hgc⟩ := H.out.rH.form (by omega)
        injection e with e1 e2 e3
        subst e1
        subst e3
        have hrH := H.out.rH
        obtain ⟨hcS, hfS⟩ := own_at hrH (i : Int) (by omega) hlh'
        rw [Int.toNat_natCast] at hcS hfS
        have hcS' : wr.cell? ((⟨g, 0, none⟩ : Addr).add i) = some (.int .i64 (rd hs (i : Int))) := by rw [add_plain]; exact hcS
        have hfS' : wr.frozen? ((⟨g, 0, none⟩ : Addr).add i) = false := by rw [add_plain]; exact hfS
        clear hrH
        go_wp2_with fail
        refine bodyPost_ret (results_none rfl _ _ _) rfl ?_
        exact ⟨rfl, _, _, ats, hs.set i v, H.out.put i v, HT.out, by omega⟩
      · have hx' : (ats[i] == x) = false := by simpa using hx
        have HX := Aside0.mk hx
        clear hx
        obtain ⟨y, hy⟩ : ∃ y, y = ats[i] := ⟨_, rfl⟩
        rw [← hy] at hx' hc0
        clear hy
        go_wp2_with fail
        go_roundw
        case rel => exact ⟨i + 1, by omega, by go_num, by first | rfl | trivial, ⟨fun j hj hji => by
          by_cases e : j = i
          · subst e; exact fun h => HX.out h
          · exact HJ.out j hj (by omega)⟩⟩
        case measure => simp [intOf]; omega
    · have hlt' : ¬ (i : Int) < (ats.length : Int) := by omega
      obtain rfl : i = ats.length := by omega
      have HNX : Aside0 (x ∉ ats) := ⟨fun hm => by
        obtain ⟨j, hj, e⟩ := List.getElem_of_mem hm
        exact HJ.out j hj hj e⟩
      have HP := Aside0.mk H.out.pb
      go_wp2_with (first | (at_builtin; refine app_new_where rfl (.tmp 36) (.tmp 38) 24 3 (.int .i64 0) 1 8 rfl Try.underlying24 info3 rfl (by decide) rfl HP.out.rA _ 1 rfl rfl rfl (fun u hu => by simp at hu; subst hu; rfl) (by omega) (by omega) HP.out.bel.size ?_; intro v2 w3 ho hg hw; have n_ := Aside0.mk (HP.out.madeA (x := x) ho hg hw); clear HP; have HP := n_; clear n_; clear ho hg hw) | (refine cell_store rfl 24 (.tmp 41) (.tmp 39) rfl oi24 (q := 0) rfl rfl (own_one HP.out.rA) HP.out.hB (by simp) ?_; intro w4 hb4 hg4 hz4; have n_ := Aside0.mk (HP.out.box hb4 hg4); clear HP; have HP := n_; clear n_; clear hb4 hg4 hz4) | (refine cell_load rfl 24 (.tmp 45) rfl Try.underlying24 rfl rfl (HP.out.hB.cell (o := 1) rfl) ?_) | (at_builtin; refine app_new_where rfl (.tmp 46) (.tmp 48) 24 3 (.int .i64 0) 1 8 rfl Try.underlying24 info3 rfl (by decide) rfl HP.out.rH _ 1 rfl rfl rfl (fun u hu => by simp at hu; subst hu; rfl) (by omega) (by omega) HP.out.bel.size ?_; intro v2 w3 ho hg hw; have n_ := Aside0.mk (HP.out.madeH (x := v) ho hg hw); clear HP; have HP := n_; clear n_; clear ho hg hw) | (refine cell_store rfl 24 (.tmp 51) (.tmp 49) rfl oi24 (q := 1) rfl rfl (own_one HP.out.rH) HP.out.hB (by simp) ?_; intro w4 hb4 hg4 hz4; have n_ := Aside0.mk (HP.out.box hb4 hg4); clear HP; have HP := n_; clear n_; clear hb4 hg4 hz4))
      go_end0
      exact ⟨rfl, _, _, ats ++ [x], hs ++ [v], ⟨HP.out.bel, HP.out.lb, HP.out.hB, HP.out.rA, HP.out.rH, HP.out.ne, by have := HL.out; simp; omega⟩, tellP_app ats hs x v HL.out HNX.out, by simp⟩
end Go.Proofs.Ytjolnfhgiddafaa.PAll
