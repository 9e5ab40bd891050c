import Derived.Test.YtibhjlmffgabgaaZSet
import Derived.Deep.OwnRows
import Derived.BigRegion
namespace Go.Proofs.Ytibhjlmffgabgaa.PAll
open Go.RowKit Go.Proofs.YtibhjlmffgabgaaW.PrintWords Go.Proofs.YtibhjlmffgabgaaW.PrintLast Go.Proofs.YtibhjlmffgabgaaW.PrintMore
open Go.Proofs.Ytibhjlmffgabgaa.MapInt
set_option linter.unusedVariables false
set_option linter.unusedSimpArgs false
theorem info2b : (Try.prog.info? 2).map (fun i => (i.zero, i.size, i.bytes)) = some (some (.int .i64 0), 1, 8) := by kernel_rfl
theorem info4b : (Try.prog.info? 4).map (fun i => (i.zero, i.size, i.bytes)) = some (some (.bool false), 1, 1) := by kernel_rfl
theorem made_ints (n : Nat) : madeCells #[.int .i64 0] n = wC (List.replicate n 0) := by
  apply Array.ext_getElem?
  intro i
  unfold madeCells wC
  by_cases h : i < n
  · simp [h, Nat.mod_one]
  · simp [h]
theorem made_bools (n : Nat) : madeCells #[.bool false] n = bC (List.replicate n false) := by
  apply Array.ext_getElem?
  intro i
  unfold madeCells bC
  by_cases h : i < n
  · simp [h, Nat.mod_one]
  · simp [h]
set_option maxHeartbeats 8000000 in
set_option maxRecDepth 100000 in
theorem new_bad {w : World} (words : Int) (h : words < 1 ∨ 65536 < words) :
    Calls Try.prog 10 #[.int .i64 words] w fun e w' => e = .returned (.tuple #[.pointer none, .int .i64 100]) ∧ Below w.heap.size w w' := by
  by_cases h1 : words < 1
  · clear h
    go_enter Try.func10, Try.ntmps10
    go_wp2_with fail
    (try go_ret2)
    exact ⟨rfl, Below.refl _ _⟩
  · have h2 : 65536 < words := by omega
    clear h
    go_enter Try.func10, Try.ntmps10
    go_wp2_with fail
    (try go_ret2)
    exact ⟨rfl, Below.refl _ _⟩
theorem push3 {α : Type} (h : Array α) (a b c : α) : (((h.push a).push b).push c)[h.size]? = some a ∧ (((h.push a).push b).push c)[h.size + 1]? = some b ∧ (((h.push a).push b).push c)[h.size + 1 + 1]? = some c := by
  refine ⟨?_, ?_, ?_⟩
  · rw [Array.getElem?_push, if_neg (by simp; omega), Array.getElem?_push, if_neg (by simp), Array.getElem?_push, if_pos rfl]
  · rw [Array.getElem?_push, if_neg (by simp), Array.getElem?_push, if_pos (by simp)]
  · rw [Array.getElem?_push, if_pos (by simp)]
theorem new_as {w : World} {most : Nat} (h1 : 1 ≤ most) (h2 : most ≤ 65536) {gw gs g : Nat} {w2 : World} (hw : Blk w2 gw 2 (madeCells #[.int .i64 0] (most + 1))) (hs : Blk w2 gs 4 (madeCells #[.bool false] (most + 1)))
    (hg : Blk w2 g 63 #[.slice (some ⟨gw, 0, none⟩) (most + 1) (most + 1), .slice (some ⟨gs, 0, none⟩) (most + 1) (most + 1), .int .i64 1, .slice none 0 0, .int .i64 0]) (b1 : w.heap.size ≤ gw) (b2 : w.heap.size ≤ gs) (b3 : w.heap.size ≤ g) :
    AS w2 w.heap.size (fun k => w.heap.size ≤ k ∧ k < w2.heap.size) g most [] [] 0 := by
  refine ⟨⟨h1, h2⟩, Nat.zero_le _, (fun t h => by cases h), (fun s => by unfold shOf; simp [z65]), (fun t h => by cases h), gw, gs, .slice none 0 0, 0, List.replicate most 0, ?_⟩
  refine ⟨hg, ?_, ?_, Kd.N_nil _ _ _ _ _, ?_, ?_, ⟨b3, hg.lt⟩, ⟨b1, hw.lt⟩, ⟨b2, hs.lt⟩⟩
  · rw [made_ints] at hw; exact hw
  · rw [made_bools] at hs; exact hs
  · simp
  · simp [sumT]
set_option maxHeartbeats 8000000 in
set_option maxRecDepth 100000 in
theorem new_calls {w : World} (most : Nat) (h1 : 1 ≤ most) (h2 : most ≤ 65536) :
    Calls Try.prog 10 #[.int .i64 (most : Int)] w fun e w' => ∃ g, e = .returned (.tuple #[.pointer (some ⟨g, 0, none⟩), .int .i64 0]) ∧ AS w' w.heap.size (fun k => w.heap.size ≤ k ∧ k < w'.heap.size) g most [] [] 0 ∧ Below w.heap.size w w' := by
  have n1 : ¬ (most : Int) < 1 := by omega
  have n2 : ¬ 65536 < (most : Int) := by omega
  have m1 : ∀ w : World, (Instr.makeSlice 59 (.int .i64 ((most : Int) + 1)) (.int .i64 ((most : Int) + 1))).run Try.prog w = .ok (.slice (some ⟨w.heap.size, 0, none⟩) (most + 1) (most + 1)) (w.alloc (.cells (madeCells #[.int .i64 0] (most + 1)) 2)) := fun w => run_make_row' 59 2 (.int .i64 0) 8 Try.underlying59 info2b rfl .i64 .i64 (most + 1) (by omega) (by omega) w
  have m2 : ∀ w : World, (Instr.makeSlice 60 (.int .i64 ((most : Int) + 1)) (.int .i64 ((most : Int) + 1))).run Try.prog w = .ok (.slice (some ⟨w.heap.size, 0, none⟩) (most + 1) (most + 1)) (w.alloc (.cells (madeCells #[.bool false] (most + 1)) 4)) := fun w => run_make_row' 60 4 (.bool false) 1 Try.underlying60 info4b rfl .i64 .i64 (most + 1) (by omega) (by omega) w
  have hm : (most : Int) ≤ 65536 := by omega
  go_enter Try.func10, Try.ntmps10
  go_wp2_with fail
  go_region
  all_goals (go_wp2_with fail)
  all_goals (try go_ret2)
  · exact ⟨_, rfl, new_as (w := w) (gw := w.heap.size) (gs := w.heap.size + 1) h1 h2 (push3 w.heap _ _ _).1 (push3 w.heap _ _ _).2.1 (push3 w.heap _ _ _).2.2 (by omega) (by omega) (by omega), below_drew (below_alloc (below_alloc (below_alloc (Below.refl _ _) _) _) _)⟩
  · exact ⟨_, rfl, new_as (w := w) (gw := w.heap.size + 1) (gs := w.heap.size) h1 h2 (push3 w.heap _ _ _).2.1 (push3 w.heap _ _ _).1 (push3 w.heap _ _ _).2.2 (by omega) (by omega) (by omega), below_drew (below_alloc (below_alloc (below_alloc (Below.refl _ _) _) _) _)⟩
end Go.Proofs.Ytibhjlmffgabgaa.PAll
