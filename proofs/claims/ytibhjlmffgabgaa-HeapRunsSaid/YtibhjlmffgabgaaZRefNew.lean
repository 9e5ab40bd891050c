import Derived.Test.YtibhjlmffgabgaaZRefClear
namespace Go.Proofs.Ytibhjlmffgabgaa.PAll
open Go.RowKit Go.Proofs.YtibhjlmffgabgaaW.PrintWords Go.Proofs.YtibhjlmffgabgaaW.PrintLast Go.Proofs.YtibhjlmffgabgaaW.PrintMore
open Go.Proofs.Ytibhjlmffgabgaa.MapInt
set_option linter.unusedVariables false
set_option linter.unusedSimpArgs false
set_option maxHeartbeats 8000000 in
set_option maxRecDepth 100000 in
theorem rnew_bad {w : World} (words : Int) (h : words < 1 ∨ 65536 < words) :
    Calls Try.prog 23 #[.int .i64 words] w fun e w' => e = .returned (.tuple #[.pointer none, .int .i64 100]) ∧ Below w.heap.size w w' := by
  by_cases h1 : words < 1
  · have h1' : decide (words < 1) = true := by simp; omega
    clear h
    go_enter Try.func23, Try.ntmps23
    go_wp2_with fail
    (try go_ret2)
    exact ⟨rfl, Below.refl _ _⟩
  · have h1' : decide (words < 1) = false := by simp; omega
    have h2 : 65536 < words := by omega
    have h2' : decide (65536 < words) = true := by simp; omega
    clear h h1
    go_enter Try.func23, Try.ntmps23
    go_wp2_with fail
    (try go_ret2)
    exact ⟨rfl, Below.refl _ _⟩
theorem rm_new (w : World) (K : Nat → Prop) (hK : ∀ k, K k → k < w.heap.size) (words : Int) : RM (w.alloc (.cells #[.int .i64 words, .slice none 0 0, .slice none 0 0, .int .i64 0] 55)) w.heap.size (fun k => k = w.heap.size) K w.heap.size words [] [] 0 (.slice none 0 0) (.slice none 0 0) :=
  ⟨Blk.made w 55 _, ⟨rfl, .inl ⟨rfl, rfl⟩⟩, ⟨rfl, .inl ⟨rfl, rfl⟩⟩, (fun l hl => by cases hl), (fun t ht => by cases ht), by simp, rfl, (fun k e => by cases e), (fun k e => by cases e), (fun k e => by subst e; simp), (fun k hk => by have := hK k hk; simp; omega), (fun k e hk => by have := hK k hk; omega)⟩
theorem rf_new {words : Int} (h : 1 ≤ words ∧ words ≤ 65536) : RF words [] [] := ⟨h, by simp [sumT]; omega, (fun t ht => by cases ht), (fun l hl => by cases hl), (fun l hl => by cases hl), (fun t ht => by cases ht), by simp⟩
set_option maxHeartbeats 8000000 in
set_option maxRecDepth 100000 in
theorem rnew_calls {w : World} (K : Nat → Prop) (hK : ∀ k, K k → k < w.heap.size) (words : Int) (h1 : 1 ≤ words) (h2 : words ≤ 65536) :
    Calls Try.prog 23 #[.int .i64 words] w fun e w' => ∃ g, e = .returned (.tuple #[.pointer (some ⟨g, 0, none⟩), .int .i64 0]) ∧ RM w' w.heap.size (fun k => k = w.heap.size) K g words [] [] 0 (.slice none 0 0) (.slice none 0 0) ∧ g = w.heap.size ∧ Below w.heap.size w w' := by
  have h1' : decide (words < 1) = false := by simp; omega
  have h2' : decide (65536 < words) = false := by simp; omega
  have HN := Aside0.mk (rm_new w K hK words)
  clear hK
  go_enter Try.func23, Try.ntmps23
  go_wp2_with fail
  (try go_ret2)
  exact ⟨_, rfl, HN.out, rfl, below_alloc (Below.refl _ _) _⟩
end Go.Proofs.Ytibhjlmffgabgaa.PAll
