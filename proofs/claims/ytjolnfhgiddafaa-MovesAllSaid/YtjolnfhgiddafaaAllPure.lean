/-
  Orders of places, told of lists: exchanges, there and back.
-/
import Derived.Test.YtjolnfhgiddafaaTurnPure
namespace Go.Proofs.Ytjolnfhgiddafaa.PAll
open Go.RowKit Go.Proofs.YtjolnfhgiddafaaW.PrintWords Go.Proofs.YtjolnfhgiddafaaW.PrintLast Go.Proofs.YtjolnfhgiddafaaW.PrintMore
open Go.Proofs.Ytjolnfhgiddafaa.MapInt Go.Proofs.Ytjolnfhgiddafaa.Moves
set_option linter.unusedVariables false
set_option linter.unusedSimpArgs false
def idL (n : Nat) : List Int := (List.range n).map fun (k : Nat) => (k : Int)
def swapL (z : List Int) (i k : Nat) : List Int := (z.set i (z.getD k 0)).set k (z.getD i 0)
theorem idL_len (n : Nat) : (idL n).length = n := by unfold idL; simp
theorem swapL_len (z : List Int) (i k : Nat) : (swapL z i k).length = z.length := by unfold swapL; simp
theorem swapL_perm {z : List Int} {i k : Nat} (hi : i < z.length) (hk : k < z.length) : (swapL z i k).Perm z := by
  unfold swapL
  have e1 : z.getD k 0 = z[k] := by simp [List.getD_eq_getElem?_getD, hk]
  have e2 : z.getD i 0 = z[i] := by simp [List.getD_eq_getElem?_getD, hi]
  rw [e1, e2]
  exact List.set_set_perm hi hk
theorem idL_mem {n : Nat} {x : Int} : x ∈ idL n ↔ ∃ k, k < n ∧ (k : Int) = x := by
  unfold idL
  simp [List.mem_map, List.mem_range]
theorem idL_nodup (n : Nat) : (idL n).Nodup := by
  unfold idL List.Nodup
  rw [List.pairwise_map]
  refine List.Pairwise.imp ?_ (List.nodup_range (n := n))
  intro a b h h2
  omega
def thereM (z : List Int) (q : Nat) : S35 := ⟨(q : Int), rd z (q : Int)⟩
def backM (z : List Int) (q : Nat) : S35 := ⟨rd z (q : Int), (q : Int)⟩
def thereL (z : List Int) (i : Nat) : List S35 := (List.range i).map (thereM z)
def backL (z : List Int) (i : Nat) : List S35 := (List.range i).map (backM z)
theorem thereL_succ (z : List Int) (i : Nat) : thereL z (i + 1) = thereL z i ++ [thereM z i] := by unfold thereL; rw [List.range_succ, List.map_append]; rfl
theorem backL_succ (z : List Int) (i : Nat) : backL z (i + 1) = backL z i ++ [backM z i] := by unfold backL; rw [List.range_succ, List.map_append]; rfl
theorem thereL_len (z : List Int) (i : Nat) : (thereL z i).length = i := by unfold thereL; simp
theorem backL_len (z : List Int) (i : Nat) : (backL z i).length = i := by unfold backL; simp
theorem rd_ge (z : List Int) (q : Nat) (h : q < z.length) : rd z (q : Int) = z[q] := by unfold rd; simp [List.getD_eq_getElem?_getD, h]
theorem rd_in {n : Nat} {z : List Int} (hz : z.Perm (idL n)) {q : Nat} (hq : q < n) : ∃ k, k < n ∧ (k : Int) = rd z (q : Int) := by
  have hl : z.length = n := by rw [hz.length_eq, idL_len]
  rw [rd_ge z q (by omega)]
  exact idL_mem.1 (hz.mem_iff.1 (List.getElem_mem _))
theorem backL_map (z : List Int) (n : Nat) (hl : z.length = n) : (List.range n).map (fun q => rd z ((q : Nat) : Int)) = z := by
  apply List.ext_getElem
  · simp [hl]
  · intro q h1 h2
    rw [List.getElem_map, List.getElem_range, rd_ge z q h2]
theorem keys_there (z : List Int) (n : Nat) : keys ((thereL z n).map toE) = idL n := by
  unfold keys thereL idL; rw [List.map_map, List.map_map]; rfl
theorem keys_back (z : List Int) (n : Nat) (hl : z.length = n) : keys ((backL z n).map toE) = z := by
  have h := backL_map z n hl
  unfold keys backL; rw [List.map_map, List.map_map]; exact h
theorem there_mem {z : List Int} {n : Nat} {x : S35} (h : x ∈ thereL z n) : ∃ q, q < n ∧ x = thereM z q := by
  unfold thereL at h
  obtain ⟨q, hq, rfl⟩ := List.mem_map.1 h
  exact ⟨q, List.mem_range.1 hq, rfl⟩
theorem back_mem {z : List Int} {n : Nat} {x : S35} (h : x ∈ backL z n) : ∃ q, q < n ∧ x = backM z q := by
  unfold backL at h
  obtain ⟨q, hq, rfl⟩ := List.mem_map.1 h
  exact ⟨q, List.mem_range.1 hq, rfl⟩
theorem there_ok {z : List Int} {n : Nat} (hz : z.Perm (idL n)) : OkL ((thereL z n).map toE) (-5) := by
  refine ⟨by rw [keys_there]; exact idL_nodup n, fun e he => ?_⟩
  obtain ⟨x, hx, rfl⟩ := List.mem_map.1 he
  obtain ⟨q, hq, rfl⟩ := there_mem hx
  obtain ⟨k, hk, e⟩ := rd_in hz hq
  have h1 : (toE (thereM z q)).1 = (q : Int) := rfl
  have h2 : (toE (thereM z q)).2 = rd z (q : Int) := rfl
  rw [h1, h2]; omega
theorem back_ok {z : List Int} {n : Nat} (hz : z.Perm (idL n)) : OkL ((backL z n).map toE) (-5) := by
  refine ⟨by rw [keys_back z n (by rw [hz.length_eq, idL_len])]; exact hz.nodup_iff.2 (idL_nodup n), fun e he => ?_⟩
  obtain ⟨x, hx, rfl⟩ := List.mem_map.1 he
  obtain ⟨q, hq, rfl⟩ := back_mem hx
  obtain ⟨k, hk, e⟩ := rd_in hz hq
  have h1 : (toE (backM z q)).1 = rd z (q : Int) := rfl
  have h2 : (toE (backM z q)).2 = (q : Int) := rfl
  rw [h1, h2]; omega
theorem runTo_two (a b : List S35) (x : Int) : runTo (a ++ b) (a ++ b).length x = run (b.map toE) (run (a.map toE) id) x := by
  unfold runTo
  have : ((a ++ b).map toE).take (a ++ b).length = (a ++ b).map toE := by rw [← List.length_map (f := toE)]; exact List.take_length
  rw [this, List.map_append, run_app]
theorem all_good {z : List Int} {n : Nat} (hz : z.Perm (idL n)) (a b : List S35) (ha : a = (orderF (-5) ((thereL z n).map toE)).map ofE) (hb : b = (orderF (-5) ((backL z n).map toE)).map ofE) :
    a.length ≤ n + n / 2 ∧ b.length ≤ n + n / 2 ∧ ∀ j, j < n → runTo (a ++ b) (a ++ b).length (j : Int) = (j : Int) := by
  have hl : z.length = n := by rw [hz.length_eq, idL_len]
  obtain ⟨A1, A2, A3, _⟩ := order_good ((thereL z n).map toE) (-5) (there_ok hz).1 (there_ok hz).2
  obtain ⟨B1, B2, B3, _⟩ := order_good ((backL z n).map toE) (-5) (back_ok hz).1 (back_ok hz).2
  have ra : (real ((thereL z n).map toE)).length ≤ n := by
    have h : (real ((thereL z n).map toE)).length ≤ ((thereL z n).map toE).length := List.length_filter_le _ _
    rw [List.length_map, thereL_len] at h; exact h
  have rb : (real ((backL z n).map toE)).length ≤ n := by
    have h : (real ((backL z n).map toE)).length ≤ ((backL z n).map toE).length := List.length_filter_le _ _
    rw [List.length_map, backL_len] at h; exact h
  refine ⟨by rw [ha, List.length_map]; omega, by rw [hb, List.length_map]; omega, fun j hj => ?_⟩
  rw [runTo_two, ha, hb, toE_ofE, toE_ofE]
  have hm : (j : Int) ∈ z := hz.mem_iff.2 (idL_mem.2 ⟨j, hj, rfl⟩)
  obtain ⟨q, hq, e⟩ := List.getElem_of_mem hm
  have hqn : q < n := by omega
  have e1 : rd z (q : Int) = (j : Int) := by rw [rd_ge z q hq]; exact e
  have h1 := B1 (run (orderF (-5) ((thereL z n).map toE)) id) (toE (backM z q)) (List.mem_map.2 ⟨_, List.mem_map.2 ⟨q, List.mem_range.2 hqn, rfl⟩, rfl⟩)
  have h2 := A1 id (toE (thereM z q)) (List.mem_map.2 ⟨_, List.mem_map.2 ⟨q, List.mem_range.2 hqn, rfl⟩, rfl⟩)
  have f1 : (toE (backM z q)).1 = (j : Int) := e1
  have f2 : (toE (backM z q)).2 = (q : Int) := rfl
  have f3 : (toE (thereM z q)).1 = (q : Int) := rfl
  have f4 : id (toE (thereM z q)).2 = (j : Int) := e1
  rw [f1, f2] at h1
  rw [f3, f4] at h2
  rw [h1, h2]
theorem idL_of (z : List Int) (n : Nat) (hl : z.length = n) (h : ∀ k, k < n → z.getD k 0 = (k : Int)) : z = idL n := by
  apply List.ext_getElem
  · rw [idL_len, hl]
  · intro k h1 h2
    have := h k (by omega)
    rw [List.getD_eq_getElem?_getD, List.getElem?_eq_getElem h1] at this
    have h3 : (idL n)[k]? = some (k : Int) := by
      rw [idL_len] at h2
      unfold idL; simp [h2]
    rw [List.getElem?_eq_getElem h2] at h3
    injection h3 with h3
    rw [h3]; simpa using this
end Go.Proofs.Ytjolnfhgiddafaa.PAll
