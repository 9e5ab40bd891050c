/-
  Places: what lies where, ats two lists; Get and Set.
-/
import Derived.Test.YtjolnfhgiddafaaLawPure
import Derived.Test.YtjolnfhgiddafaaAppAt
namespace Go.Proofs.Ytjolnfhgiddafaa.PAll
open Go.RowKit Go.Proofs.YtjolnfhgiddafaaW.PrintWords Go.Proofs.YtjolnfhgiddafaaW.PrintLast Go.Proofs.YtjolnfhgiddafaaW.PrintMore
open Go.Proofs.Ytjolnfhgiddafaa.MapInt Go.Proofs.Ytjolnfhgiddafaa.Moves
set_option linter.unusedVariables false
set_option linter.unusedSimpArgs false
structure PL (W0 w : World) (b : Nat) (vA vH : Value) (ats hs : List Int) : Prop where
  bel : Below W0.heap.size W0 w
  lb : W0.heap.size ≤ b
  hB : Blk w b 33 #[vA, vH]
  rA : w.ownsRow W0.heap.size 3 1 vA ats.length (nums .i64 ats)
  rH : w.ownsRow W0.heap.size 3 1 vH hs.length (nums .i64 hs)
  ne : ∀ k, vA.ownBlock = some k → some k ≠ vH.ownBlock
  len : ats.length = hs.length
def tellP : List Int → List Int → Int → Int
  | a :: ats, h :: hs, x => if a = x then h else tellP ats hs x
  | _, _, x => x
theorem tellP_at : ∀ (ats hs : List Int) (x : Int) (i : Nat) (hi : i < ats.length) (hh : i < hs.length), ats[i] = x → (∀ j (hj : j < i), ats[j]'(by omega) ≠ x) → tellP ats hs x = hs[i]
  | a :: ats, h :: hs, x, 0, hi, hh, h1, h2 => by
    have : a = x := h1
    unfold tellP; rw [if_pos this]; rfl
  | a :: ats, h :: hs, x, i + 1, hi, hh, h1, h2 => by
    have h3 : a ≠ x := h2 0 (by omega)
    unfold tellP; rw [if_neg h3]
    exact tellP_at ats hs x i (by simpa using hi) (by simpa using hh) (by simpa using h1) (fun j hj => by have := h2 (j + 1) (by omega); simpa using this)
theorem tellP_none : ∀ (ats hs : List Int) (x : Int), x ∉ ats → tellP ats hs x = x
  | [], _, _, _ => by unfold tellP; rfl
  | a :: ats, [], x, h => by unfold tellP; rfl
  | a :: ats, b :: hs, x, h => by
    unfold tellP
    rw [if_neg (fun e => h (by simp [e])), tellP_none ats hs x (fun h2 => h (List.mem_cons_of_mem _ h2))]
theorem tellP_set : ∀ (ats hs : List Int) (x v : Int) (i : Nat) (hi : i < ats.length) (hh : ats.length = hs.length), ats[i] = x → (∀ j (hj : j < i), ats[j]'(by omega) ≠ x) → ∀ y, tellP ats (hs.set i v) y = if y = x then v else tellP ats hs y
  | a :: ats, h :: hs, x, v, 0, hi, hh, h1, h2, y => by
    have h3 : a = x := h1
    subst h3
    simp only [List.set_cons_zero]
    unfold tellP
    by_cases e : a = y
    · subst e; simp
    · rw [if_neg e, if_neg e, if_neg (fun h => e h.symm)]
  | a :: ats, h :: hs, x, v, i + 1, hi, hh, h1, h2, y => by
    have h3 : a ≠ x := h2 0 (by omega)
    simp only [List.set_cons_succ]
    unfold tellP
    have ih := tellP_set ats hs x v i (by simpa using hi) (by simpa using hh) (by simpa using h1) (fun j hj => by have := h2 (j + 1) (by omega); simpa using this) y
    by_cases e : a = y
    · subst e; simp [h3]
    · rw [if_neg e, if_neg e]; exact ih
theorem tellP_app : ∀ (ats hs : List Int) (x v : Int), ats.length = hs.length → x ∉ ats → ∀ y, tellP (ats ++ [x]) (hs ++ [v]) y = if y = x then v else tellP ats hs y
  | [], [], x, v, _, _, y => by
    show tellP [x] [v] y = _
    unfold tellP
    by_cases e : x = y
    · simp [e]
    · rw [if_neg e, if_neg (fun h => e h.symm)]; unfold tellP; rfl
  | a :: ats, h :: hs, x, v, hl, hx, y => by
    show tellP (a :: (ats ++ [x])) (h :: (hs ++ [v])) y = _
    have h3 : a ≠ x := fun e => hx (by simp [e])
    unfold tellP
    by_cases e : a = y
    · subst e; simp [h3]
    · rw [if_neg e, if_neg e]
      exact tellP_app ats hs x v (by simpa using hl) (fun h2 => hx (List.mem_cons_of_mem _ h2)) y
theorem PL.cA {W0 w : World} {b : Nat} {A : Option Addr} {k c : Nat} {vH : Value} {ats hs : List Int} (h : PL W0 w b (.slice A k c) vH ats hs) : k = ats.length ∧ k ≤ c ∧ Kd.C (Kd.int .i64) w A ats.length ats :=
  Kd.R_reads' (Kd.R_of_own (enc := Value.int .i64) (ok := fun _ => True) h.rA (fun _ _ => trivial))
theorem PL.cH {W0 w : World} {b : Nat} {A : Option Addr} {k c : Nat} {vA : Value} {ats hs : List Int} (h : PL W0 w b vA (.slice A k c) ats hs) : k = hs.length ∧ k ≤ c ∧ Kd.C (Kd.int .i64) w A hs.length hs :=
  Kd.R_reads' (Kd.R_of_own (enc := Value.int .i64) (ok := fun _ => True) h.rH (fun _ _ => trivial))
theorem PL.len64 {W0 w : World} {b : Nat} {vA vH : Value} {ats hs : List Int} (h : PL W0 w b vA vH ats hs) : ats.length ≤ 9223372036854775807 := by
  obtain ⟨A, c, rfl⟩ := MapInt.own_slice' h.rA
  exact Kd.C_max h.cA.2.2
theorem rdAt (ats : List Int) (i : Nat) (h : i < ats.length) : rd ats (i : Int) = ats[i] := by unfold rd; simp [List.getD_eq_getElem?_getD, h]
set_option maxHeartbeats 8000000 in
set_option maxRecDepth 100000 in
theorem get_calls (W0 w : World) (b : Nat) (vA vH : Value) (ats hs : List Int) (x : Int) (h : PL W0 w b vA vH ats hs) (hs9 : ats.length ≤ 1000000) :
    Calls Try.prog 13 #[.pointer (some ⟨b, 0, none⟩), .int .i64 x] w fun e w' => e = .returned (.int .i64 (tellP ats hs x)) ∧ w' = w := by
  obtain ⟨A, c, rfl⟩ := MapInt.own_slice' h.rA
  obtain ⟨A', c', rfl⟩ := MapInt.own_slice' h.rH
  have hb0 : w.cell? ⟨b, 0, none⟩ = some (.slice A ats.length c) := h.hB.cell rfl
  have hb1 : w.cell? ⟨b, 1, none⟩ = some (.slice A' hs.length c') := h.hB.cell rfl
  have H := Aside0.mk h
  have HL := Aside0.mk h.len
  have HT : Aside0 (∀ i (hi : i < ats.length), ats[i] = x → (∀ j (hj : j < i), ats[j]'(by omega) ≠ x) → tellP ats hs x = rd hs (i : Int)) := ⟨fun i hi h1 h2 => by rw [rdAt hs i (by have := h.len; omega)]; exact tellP_at ats hs x i hi (by have := h.len; omega) h1 h2⟩
  have HN : Aside0 (x ∉ ats → tellP ats hs x = x) := ⟨tellP_none ats hs x⟩
  generalize tellP ats hs x = r at *
  clear h
  go_enter Try.func13, Try.ntmps13
  go_wp2_with fail
  go_loopw [5] (fun v5 wr => ∃ i : Nat, i ≤ ats.length ∧ v5 = .int .i64 i ∧ wr = w ∧ Aside0 (∀ j (hj : j < ats.length), j < i → ats[j] ≠ x)) (fun v5 _ => ats.length - (intOf v5).toNat)
  case atStart => exact ⟨0, Nat.zero_le _, rfl, rfl, ⟨fun j _ hj => by omega⟩⟩
  case round =>
    obtain ⟨i, hi, rfl, rfl, HJ⟩ := hrel
    by_cases hlt : i < ats.length
    · have hlt' : (i : Int) < (ats.length : Int) := by omega
      have hlh' : (i : Int) < (hs.length : Int) := by have := HL.out; omega
      obtain ⟨ad, rfl, hc0⟩ := Kd.at_int (H.out.cA).2.2 (i : Int) (by omega) hlt'
      obtain ⟨ad', rfl, hc1⟩ := Kd.at_int (H.out.cH).2.2 (i : Int) (by omega) hlh'
      rw [Int.toNat_natCast] at hc0 hc1
      rw [rdAt ats i hlt] at hc0
      by_cases hx : ats[i] = x
      · have hr := HT.out i hlt hx (fun j hj => HJ.out j (by omega) hj)
        rw [← hr] at hc1
        rw [hx] at hc0
        clear hx hr
        go_wp2_with fail
        (try go_ret)
        exact ⟨rfl, rfl⟩
      · have hx' : (ats[i] == x) = false := by simpa using hx
        have HX := Aside0.mk hx
        clear hx
        obtain ⟨y, hy⟩ : ∃ y, y = ats[i] := ⟨_, rfl⟩
        rw [← hy] at hx' hc0
        clear hy
        go_wp2_with fail
        go_roundw
        case rel => exact ⟨i + 1, by omega, by go_num, by first | rfl | trivial, ⟨fun j hj hji => by
          by_cases e : j = i
          · subst e; exact fun h => HX.out h
          · exact HJ.out j hj (by omega)⟩⟩
        case measure => simp [intOf]; omega
    · have hlt' : ¬ (i : Int) < (ats.length : Int) := by omega
      obtain rfl : i = ats.length := by omega
      have hr := HN.out (fun hm => by
        obtain ⟨j, hj, e⟩ := List.getElem_of_mem hm
        exact HJ.out j hj hj e)
      subst hr
      go_wp2_with fail
      (try go_ret)
      exact ⟨rfl, rfl⟩
/-- The same, the boxes' words and the rows apart (while Set goes on). -/
structure PB (W0 w : World) (b : Nat) (vA vH uA uH : Value) (ats hs : List Int) : Prop where
  bel : Below W0.heap.size W0 w
  lb : W0.heap.size ≤ b
  hB : Blk w b 33 #[vA, vH]
  rA : w.ownsRow W0.heap.size 3 1 uA ats.length (nums .i64 ats)
  rH : w.ownsRow W0.heap.size 3 1 uH hs.length (nums .i64 hs)
  ne : ∀ k, uA.ownBlock = some k → some k ≠ uH.ownBlock
section
variable {W0 w w2 : World} {b : Nat} {vA vH uA uH v' : Value} {ats hs : List Int}
theorem PL.pb (h : PL W0 w b vA vH ats hs) : PB W0 w b vA vH vA vH ats hs := ⟨h.bel, h.lb, h.hB, h.rA, h.rH, h.ne⟩
theorem PB.madeA (h : PB W0 w b vA vH uA uH ats hs) {cs : Array Value} {x : Int} (ho : w2.ownsRow W0.heap.size 3 1 v' (ats.length + 1) (nums .i64 ats ++ [.int .i64 x])) (hg : (w.alloc (.cells cs 3)).grownBy w2 uA.ownBlock) (hw : v'.ownBlock = uA.ownBlock ∨ v'.ownBlock = some (w.heap.size + 1)) : PB W0 w2 b vA vH v' uH (ats ++ [x]) hs := by
  have hg' := grown_alloc hg
  refine ⟨h.bel.grown hg' h.bel.size (fun k hk => (MapInt.own_row_lt h.rA k hk).2), h.lb, h.hB.kept hg' (h.hB.ne_own h.rA (by decide)), by rw [List.length_append, nums_append]; exact ho, MapInt.own_kept h.rH hg' (fun k hk e => h.ne k e.symm hk.symm), fun k hk => ?_⟩
  rcases hw with e | e
  · exact h.ne k (e ▸ hk)
  · rw [e] at hk
    injection hk with hk; subst hk
    intro e2
    have := (MapInt.own_row_lt h.rH _ e2.symm).1
    omega
theorem PB.madeH (h : PB W0 w b vA vH uA uH ats hs) {cs : Array Value} {x : Int} (ho : w2.ownsRow W0.heap.size 3 1 v' (hs.length + 1) (nums .i64 hs ++ [.int .i64 x])) (hg : (w.alloc (.cells cs 3)).grownBy w2 uH.ownBlock) (hw : v'.ownBlock = uH.ownBlock ∨ v'.ownBlock = some (w.heap.size + 1)) : PB W0 w2 b vA vH uA v' ats (hs ++ [x]) := by
  have hg' := grown_alloc hg
  refine ⟨h.bel.grown hg' h.bel.size (fun k hk => (MapInt.own_row_lt h.rH k hk).2), h.lb, h.hB.kept hg' (h.hB.ne_own h.rH (by decide)), MapInt.own_kept h.rA hg' h.ne, by rw [List.length_append, nums_append]; exact ho, fun k hk => ?_⟩
  rcases hw with e | e
  · rw [e]; exact h.ne k hk
  · rw [e]
    intro e2
    injection e2 with e2; subst e2
    have := (MapInt.own_row_lt h.rA _ hk).1
    omega
theorem PB.box (h : PB W0 w b vA vH uA uH ats hs) {vA' vH' : Value} (hb : Blk w2 b 33 #[vA', vH']) (hg : w.grownBy w2 (some b)) : PB W0 w2 b vA' vH' uA uH ats hs :=
  ⟨h.bel.grown hg h.bel.size (fun k hk => by cases hk; exact h.lb), h.lb, hb, MapInt.own_kept h.rA hg (own_apart_obj h.rA h.hB (fun _ e => by cases e)), MapInt.own_kept h.rH hg (own_apart_obj h.rH h.hB (fun _ e => by cases e)), h.ne⟩
theorem PL.put {g n cap : Nat} (h : PL W0 w b vA (.slice (some ⟨g, 0, none⟩) n cap) ats hs) (i : Nat) (v : Int) : PL W0 (w.setCell ⟨g, i, none⟩ (.int .i64 v)) b vA (.slice (some ⟨g, 0, none⟩) n cap) ats (hs.set i v) := by
  have hn : n = hs.length := by
    obtain ⟨A, c, e⟩ := MapInt.own_slice' h.rH
    injection e
  have hrH := h.rH
  rw [← hn] at hrH
  obtain ⟨s1, s2⟩ := own_store (k := .i64) hrH (i : Int) v
  rw [Int.toNat_natCast] at s1 s2
  refine ⟨h.bel.grown s2 h.bel.size (fun k hk => ?_), h.lb, h.hB.kept s2 ?_, MapInt.own_kept h.rA s2 h.ne, by rw [List.length_set, ← hn]; exact s1, h.ne, by rw [List.length_set]; exact h.len⟩
  · exact (MapInt.own_row_lt h.rH k hk).2
  · exact h.hB.ne_own h.rH (by decide)
end
end Go.Proofs.Ytjolnfhgiddafaa.PAll
