/-
  A circle's moves, told of lists.
-/
import Derived.Test.YtjolnfhgiddafaaDoPure
namespace Go.Proofs.Ytjolnfhgiddafaa.PAll
open Go.RowKit Go.Proofs.YtjolnfhgiddafaaW.PrintWords Go.Proofs.YtjolnfhgiddafaaW.PrintLast Go.Proofs.YtjolnfhgiddafaaW.PrintMore
open Go.Proofs.Ytjolnfhgiddafaa.MapInt Go.Proofs.Ytjolnfhgiddafaa.Moves
set_option linter.unusedVariables false
set_option linter.unusedSimpArgs false
def turnM (f : Int) (n k : Nat) : S35 := ⟨f + (k : Int), f + (((k + 1) % n : Nat) : Int)⟩
def turnL (f : Int) (n i : Nat) : List S35 := (List.range i).map (turnM f n)
theorem turnL_len (f : Int) (n i : Nat) : (turnL f n i).length = i := by unfold turnL; simp
theorem turnL_succ (f : Int) (n i : Nat) : turnL f n (i + 1) = turnL f n i ++ [turnM f n i] := by unfold turnL; rw [List.range_succ, List.map_append]; rfl
theorem turnL_mem {f : Int} {n i : Nat} {x : S35} (h : x ∈ turnL f n i) : ∃ k, k < i ∧ x = turnM f n k := by
  unfold turnL at h
  obtain ⟨k, hk, rfl⟩ := List.mem_map.1 h
  exact ⟨k, List.mem_range.1 hk, rfl⟩
theorem turnL_ok (f : Int) (n : Nat) (hn : 2 ≤ n) : OkL ((turnL f n n).map toE) (f - 1) := by
  refine ⟨?_, fun e he => ?_⟩
  · unfold keys turnL
    rw [List.map_map, List.map_map]
    unfold List.Nodup
    rw [List.pairwise_map]
    refine List.Pairwise.imp ?_ (List.nodup_range (n := n))
    intro a b h h2
    have h3 : f + (a : Int) = f + (b : Int) := h2
    omega
  · obtain ⟨x, hx, rfl⟩ := List.mem_map.1 he
    obtain ⟨k, hk, rfl⟩ := turnL_mem hx
    show f + (k : Int) ≠ f - 1 ∧ f + (((k + 1) % n : Nat) : Int) ≠ f - 1
    generalize (k + 1) % n = q
    omega
theorem turn_ne (f : Int) (n k : Nat) (hn : 2 ≤ n) (hk : k < n) : (turnM f n k).f0 ≠ (turnM f n k).f1 := by
  show f + (k : Int) ≠ f + (((k + 1) % n : Nat) : Int)
  by_cases h : k + 1 = n
  · rw [h, Nat.mod_self]; omega
  · rw [Nat.mod_eq_of_lt (by omega)]; omega
theorem turnL_real (f : Int) (n : Nat) (hn : 2 ≤ n) : real ((turnL f n n).map toE) = (turnL f n n).map toE := by
  unfold real
  rw [List.filter_eq_self]
  intro e he
  obtain ⟨x, hx, rfl⟩ := List.mem_map.1 he
  obtain ⟨k, hk, rfl⟩ := turnL_mem hx
  exact decide_eq_true (turn_ne f n k hn hk)
theorem turn_good (f : Int) (n : Nat) (hn : 2 ≤ n) (outs : List S35) (ho : outs = (orderF (f - 1) ((turnL f n n).map toE)).map ofE) :
    (∀ i, i < n → runTo outs outs.length (turnM f n i).f0 = (turnM f n i).f1) ∧ outs.length ≤ n + n / 2 ∧ n + 1 ≤ outs.length := by
  obtain ⟨G1, G2, G3, G4, G5, G6⟩ := order_good ((turnL f n n).map toE) (f - 1) (turnL_ok f n hn).1 (turnL_ok f n hn).2
  have hr := turnL_real f n hn
  have hrl : (real ((turnL f n n).map toE)).length = n := by rw [hr, List.length_map, turnL_len]
  have hmem : ∀ i, i < n → toE (turnM f n i) ∈ (turnL f n n).map toE := fun i hi => List.mem_map.2 ⟨_, List.mem_map.2 ⟨i, List.mem_range.2 hi, rfl⟩, rfl⟩
  refine ⟨fun i hi => ?_, ?_, ?_⟩
  · rw [runTo_all _ _ outs ho]
    exact G1 id _ (hmem i hi)
  · rw [ho, List.length_map]; omega
  · rw [ho, List.length_map]
    have := G6 (fun e => by rw [e] at hrl; simp at hrl; omega) (fun x hx => by
      rw [hr] at hx ⊢
      obtain ⟨a, ha⟩ := mem_keys.1 hx
      obtain ⟨y, hy, hye⟩ := List.mem_map.1 ha
      obtain ⟨k, hk, rfl⟩ := turnL_mem hy
      have hx2 : x = f + (k : Int) := (congrArg Prod.fst hye).symm
      cases k with
      | zero =>
        refine ⟨_, hmem (n - 1) (by omega), ?_⟩
        show f + (((n - 1 + 1) % n : Nat) : Int) = x
        rw [show n - 1 + 1 = n by omega, Nat.mod_self, hx2]
      | succ k =>
        refine ⟨_, hmem k (by omega), ?_⟩
        show f + (((k + 1) % n : Nat) : Int) = x
        rw [Nat.mod_eq_of_lt hk, hx2])
    omega
/-- A list that is being made. -/
structure LS (W w : World) (v : Value) (l : List S35) : Prop where
  bel : Below W.heap.size W w
  row : w.ownsRow W.heap.size 35 2 v l.length (cellsE (l.map toE))
theorem LS.made {W w w2 : World} {v v2 : Value} {l : List S35} {cs : Array Value} {m : Nat} {x : S35} (h : LS W w v l) (ho : w2.ownsRow W.heap.size 35 2 v2 (l.length + m) (cellsE (l.map toE) ++ cs.toList)) (hm : m = 1) (hx : cs.toList = [.int .i64 x.f0, .int .i64 x.f1]) (hg : (w.alloc (.cells cs 35)).grownBy w2 v.ownBlock) : LS W w2 v2 (l ++ [x]) := by
  subst hm
  refine ⟨h.bel.grown (grown_alloc hg) h.bel.size (fun k hk => (MapInt.own_row_lt h.row k hk).2), ?_⟩
  rw [List.length_append, List.map_append, cellsE_app]
  rw [hx] at ho
  exact ho
theorem own_C {w : World} {B : Nat} {A : Option Addr} {n c k : Nat} {l : List S35} (h : w.ownsRow B 35 2 (.slice A n c) k (cellsE (l.map toE))) (hk : k = l.length) : n = l.length ∧ l.length ≤ c ∧ Kd.C k35 w A l.length l := by
  subst hk
  have hr : Kd.R k35 35 w B (fun _ => True) (.slice A n c) l := ⟨fun _ _ => trivial, ⟨_, h, by
    have := reps35 w B (fun _ => True) (l.map toE)
    rw [List.map_map] at this
    have e : ofE ∘ toE = (id : S35 → S35) := rfl
    rw [e, List.map_id] at this
    exact this⟩⟩
  have h3 := Kd.R_reads' hr
  exact ⟨h3.1, h3.1 ▸ h3.2.1, h3.2.2⟩
theorem LS.C {W w : World} {A : Option Addr} {n c : Nat} {l : List S35} (h : LS W w (.slice A n c) l) : n = l.length ∧ l.length ≤ c ∧ Kd.C k35 w A l.length l := own_C h.row rfl
theorem order_taken (A0 : Option Addr) (c0 n : Nat) (l : List S35) (bs : Int) (w : World) (outs : List S35) (hn : n = l.length) (hr0 : Kd.C k35 w A0 l.length l) (hc0 : l.length ≤ c0) (hl : l.length ≤ 1000) (hi : ∀ x ∈ l, inR x.f0 ∧ inR x.f1) (hb : inR bs) (hok : OkL (l.map toE) bs) (ho : outs = (orderF bs (l.map toE)).map ofE) :
    Calls Try.prog 10 #[.slice A0 n c0, .int .i64 bs] w fun e w' => ∃ A9 c9, e = .returned (.tuple #[.slice A9 outs.length c9, .int .i64 0]) ∧ Kd.C k35 w' A9 outs.length outs ∧ Kd.R k35 35 w' w.heap.size (fun _ => True) (.slice A9 outs.length c9) outs ∧ Below w.heap.size w w' := by
  subst hn
  refine (moves_Order.calls A0 c0 l bs outs 0 w hr0 hc0 (by rw [ho]; exact order_ok hl hi hb hok)).mono ?_
  rintro e w' ⟨v, rfl, h9, hb⟩
  obtain ⟨A9, c9, e9⟩ := Kd.R_slice h9; subst e9
  exact ⟨A9, c9, rfl, (Kd.R_reads' h9).2.2, h9, hb⟩
end Go.Proofs.Ytjolnfhgiddafaa.PAll
