import Derived.Test.YtibhjlmffgabgaaZG7
import Derived.Test.YtibhjlmffgabgaaZG1
import Derived.Test.YtibhjlmffgabgaaZG0
import Derived.Deep.QuietTactic
import Derived.BigQuiet
namespace Go.Proofs.Ytibhjlmffgabgaa.PAll
open Go.RowKit Go.Proofs.YtibhjlmffgabgaaW.PrintWords Go.Proofs.YtibhjlmffgabgaaW.PrintLast Go.Proofs.YtibhjlmffgabgaaW.PrintMore
open Go.Proofs.Ytibhjlmffgabgaa.MapInt
set_option linter.unusedVariables false
set_option linter.unusedSimpArgs false
structure Chg (P : Nat → Prop) (w w' : World) : Prop where
  os : w'.os = w.os
  tape : w'.tape = w.tape
  output : w'.output = w.output
  size : w.heap.size ≤ w'.heap.size
  block : ∀ k, k < w.heap.size → ¬ P k → w'.heap[k]? = w.heap[k]?
section
variable {P Q : Nat → Prop} {w w1 w2 : World}
theorem Chg.refl : Chg P w w := ⟨rfl, rfl, rfl, Nat.le_refl _, fun _ _ _ => rfl⟩
theorem Chg.of_below (h : Below w.heap.size w w1) : Chg P w w1 := ⟨h.os, h.tape, h.output, h.size, fun k hk _ => h.block k hk⟩
theorem Chg.of_grown {g : Nat} (h : w.grownBy w1 (some g)) (hg : P g ∨ w.heap.size ≤ g) : Chg P w w1 := ⟨h.os, h.tape, h.output, h.size, fun k hk hn => h.block k hk (fun e => by
  injection e with e
  subst e
  rcases hg with hg | hg
  · exact hn hg
  · omega)⟩
theorem Chg.mono (h : Chg P w w1) (hs : ∀ k, P k → Q k ∨ w.heap.size ≤ k) : Chg Q w w1 := ⟨h.os, h.tape, h.output, h.size, fun k hk hn => h.block k hk (fun hp => (hs k hp).elim hn (fun h2 => by omega))⟩
theorem Chg.trans (h : Chg P w w1) (k : Chg Q w1 w2) (hs : ∀ k, Q k → P k ∨ w.heap.size ≤ k) : Chg P w w2 :=
  ⟨k.os.trans h.os, k.tape.trans h.tape, k.output.trans h.output, Nat.le_trans h.size k.size, fun j hj hn => (k.block j (Nat.lt_of_lt_of_le hj h.size) (fun h2 => (hs j h2).elim hn (fun h3 => by omega))).trans (h.block j hj hn)⟩
theorem Chg.below {B : Nat} (h : Chg P w w1) (hB : ∀ k, k < B → ¬ P k) (hs : B ≤ w.heap.size) : Below B w w1 := ⟨h.os, h.tape, h.output, h.size, fun k hk => h.block k (by omega) (hB k hk)⟩
end
def arC (gw gs n : Nat) (nx : Int) (shV : Value) (mv : Int) : Array Value := #[.slice (some ⟨gw, 0, none⟩) n n, .slice (some ⟨gs, 0, none⟩) n n, .int .i64 nx, shV, .int .i64 mv]
def wC (l : List Int) : Array Value := (l.map (Value.int .i64)).toArray
def bC (l : List Bool) : Array Value := (l.map Value.bool).toArray
theorem wC_at {l : List Int} {i : Nat} (h : i < l.length) : (wC l)[i]? = some (.int .i64 (l.getD i 0)) := by
  unfold wC; simp [h]
theorem bC_at {l : List Bool} {i : Nat} (h : i < l.length) : (bC l)[i]? = some (.bool (l.getD i false)) := by
  unfold bC; simp [h]
theorem wC_set (l : List Int) (i : Nat) (x : Int) : (wC l).setIfInBounds i (.int .i64 x) = wC (l.set i x) := by
  unfold wC; apply Array.ext'; simp
theorem bC_set (l : List Bool) (i : Nat) (x : Bool) : (bC l).setIfInBounds i (.bool x) = bC (l.set i x) := by
  unfold bC; apply Array.ext'; simp
theorem wC_size (l : List Int) : (wC l).size = l.length := by unfold wC; simp
theorem bC_size (l : List Bool) : (bC l).size = l.length := by unfold bC; simp
structure AM (w : World) (base : Nat) (P : Nat → Prop) (g gw gs n : Nat) (ws : List Int) (sts : List Bool) (nx mv : Int) (shV : Value) (shs : List S65) : Prop where
  box : Blk w g 63 (arC gw gs n nx shV mv)
  wds : Blk w gw 2 (wC ws)
  stb : Blk w gs 4 (bC sts)
  shp : Kd.N k65 65 w base (fun k => P k ∧ k ≠ g ∧ k ≠ gw ∧ k ≠ gs) shV shs
  lw : ws.length = n
  ls : sts.length = n
  pg : P g
  pw : P gw
  ps : P gs
section
variable {w w2 : World} {base g gw gs n : Nat} {P Q : Nat → Prop} {ws ws2 : List Int} {sts sts2 : List Bool} {nx mv nx2 mv2 : Int} {shV : Value} {shs : List S65}
theorem AM.kept (h : AM w base P g gw gs n ws sts nx mv shV shs) (hk : ∀ k, k < w.heap.size → P k → w2.heap[k]? = w.heap[k]?) : AM w2 base P g gw gs n ws sts nx mv shV shs :=
  ⟨by unfold Blk; rw [hk g h.box.lt h.pg]; exact h.box, by unfold Blk; rw [hk gw h.wds.lt h.pw]; exact h.wds, by unfold Blk; rw [hk gs h.stb.lt h.ps]; exact h.stb, Kd.N_step h.shp (fun k ho hl => hk k hl ho.1), h.lw, h.ls, h.pg, h.pw, h.ps⟩
theorem AM.below (h : AM w base P g gw gs n ws sts nx mv shV shs) (hb : Below w.heap.size w w2) : AM w2 base P g gw gs n ws sts nx mv shV shs := h.kept (fun k hk _ => hb.block k hk)
theorem AM.mono (h : AM w base P g gw gs n ws sts nx mv shV shs) (hs : ∀ k, P k → Q k) : AM w base Q g gw gs n ws sts nx mv shV shs :=
  ⟨h.box, h.wds, h.stb, Kd.N_mono h.shp (fun k hk => ⟨hs k hk.1, hk.2⟩), h.lw, h.ls, hs _ h.pg, hs _ h.pw, hs _ h.ps⟩
theorem AM.gne (h : AM w base P g gw gs n ws sts nx mv shV shs) : g ≠ gw ∧ g ≠ gs ∧ gw ≠ gs := ⟨h.box.ne_type h.wds (by decide), h.box.ne_type h.stb (by decide), h.wds.ne_type h.stb (by decide)⟩
theorem AM.putw (h : AM w base P g gw gs n ws sts nx mv shV shs) (hb : Blk w2 gw 2 (wC ws2)) (hg : w.grownBy w2 (some gw)) (hl : ws2.length = n) : AM w2 base P g gw gs n ws2 sts nx mv shV shs :=
  ⟨h.box.kept hg (fun e => h.gne.1 (by injection e)), hb, h.stb.kept hg (fun e => h.gne.2.2 (by injection e with e; exact e.symm)), Kd.N_grown h.shp hg (fun k hk e => hk.2.2.1 (by injection e)), hl, h.ls, h.pg, h.pw, h.ps⟩
theorem AM.puts (h : AM w base P g gw gs n ws sts nx mv shV shs) (hb : Blk w2 gs 4 (bC sts2)) (hg : w.grownBy w2 (some gs)) (hl : sts2.length = n) : AM w2 base P g gw gs n ws sts2 nx mv shV shs :=
  ⟨h.box.kept hg (fun e => h.gne.2.1 (by injection e)), h.wds.kept hg (fun e => h.gne.2.2 (by injection e)), hb, Kd.N_grown h.shp hg (fun k hk e => hk.2.2.2 (by injection e)), h.lw, hl, h.pg, h.pw, h.ps⟩
theorem AM.putg (h : AM w base P g gw gs n ws sts nx mv shV shs) (hb : Blk w2 g 63 (arC gw gs n nx2 shV mv2)) (hg : w.grownBy w2 (some g)) : AM w2 base P g gw gs n ws sts nx2 mv2 shV shs :=
  ⟨hb, h.wds.kept hg (fun e => h.gne.1 (by injection e with e; exact e.symm)), h.stb.kept hg (fun e => h.gne.2.1 (by injection e with e; exact e.symm)), Kd.N_grown h.shp hg (fun k hk e => hk.2.1 (by injection e)), h.lw, h.ls, h.pg, h.pw, h.ps⟩
theorem AM.c0 (h : AM w base P g gw gs n ws sts nx mv shV shs) : w.cell? ⟨g, 0, none⟩ = some (.slice (some ⟨gw, 0, none⟩) n n) := h.box.cell rfl
theorem AM.c1 (h : AM w base P g gw gs n ws sts nx mv shV shs) : w.cell? ⟨g, 1, none⟩ = some (.slice (some ⟨gs, 0, none⟩) n n) := h.box.cell rfl
theorem AM.c2 (h : AM w base P g gw gs n ws sts nx mv shV shs) : w.cell? ⟨g, 2, none⟩ = some (.int .i64 nx) := h.box.cell rfl
theorem AM.c3 (h : AM w base P g gw gs n ws sts nx mv shV shs) : w.cell? ⟨g, 3, none⟩ = some shV := h.box.cell rfl
theorem AM.c4 (h : AM w base P g gw gs n ws sts nx mv shV shs) : w.cell? ⟨g, 4, none⟩ = some (.int .i64 mv) := h.box.cell rfl
theorem AM.cw (h : AM w base P g gw gs n ws sts nx mv shV shs) {i : Nat} (hi : i < n) : w.cell? ⟨gw, i, none⟩ = some (.int .i64 (ws.getD i 0)) := h.wds.cell (wC_at (by rw [h.lw]; exact hi))
theorem AM.cs (h : AM w base P g gw gs n ws sts nx mv shV shs) {i : Nat} (hi : i < n) : w.cell? ⟨gs, i, none⟩ = some (.bool (sts.getD i false)) := h.stb.cell (bC_at (by rw [h.ls]; exact hi))
end
structure Thg where
  s : Nat
  xs : List Int
def shOf (shs : List S65) (s : Nat) : S65 := shs.getD s z65
def tsz (shs : List S65) (t : Thg) : Nat := (if (shOf shs t.s).f1 = true then 2 else 1) + t.xs.length
def encT (shs : List S65) (t : Thg) : List Int := (if (shOf shs t.s).f1 = true then [(t.s : Int), (t.xs.length : Int)] else [(t.s : Int)]) ++ t.xs
def begT (shs : List S65) (t : Thg) : List Bool := true :: List.replicate (tsz shs t - 1) false
def sumT (shs : List S65) (T : List Thg) : Nat := (T.map (tsz shs)).sum
def okT (shs : List S65) (t : Thg) : Prop := t.s < shs.length ∧ ((shOf shs t.s).f1 = false → t.xs.length = (shOf shs t.s).f0.length) ∧ t.xs.length ≤ 131072
def findT (shs : List S65) : List Thg → Nat → Int → Option Thg
  | [], _, _ => none
  | t :: T, b, at_ => if (b : Int) = at_ then some t else findT shs T (b + tsz shs t) at_
theorem encT_len (shs : List S65) (t : Thg) : (encT shs t).length = tsz shs t := by unfold encT tsz; split <;> simp <;> omega
theorem tsz_pos (shs : List S65) (t : Thg) : 0 < tsz shs t := by unfold tsz; split <;> omega
theorem begT_len (shs : List S65) (t : Thg) : (begT shs t).length = tsz shs t := by have := tsz_pos shs t; unfold begT; simp; omega
theorem flat_len (shs : List S65) : ∀ T : List Thg, (T.flatMap (encT shs)).length = sumT shs T
  | [] => rfl
  | t :: T => by rw [List.flatMap_cons, List.length_append, encT_len, flat_len shs T]; simp [sumT]
theorem begs_len (shs : List S65) : ∀ T : List Thg, (T.flatMap (begT shs)).length = sumT shs T
  | [] => rfl
  | t :: T => by rw [List.flatMap_cons, List.length_append, begT_len, begs_len shs T]; simp [sumT]
theorem find_ge {shs : List S65} : ∀ (T : List Thg) (b : Nat) (a : Int) (t : Thg), findT shs T b a = some t → (b : Int) ≤ a ∧ a + tsz shs t ≤ b + sumT shs T ∧ t ∈ T
  | [], b, a, t, h => by cases h
  | u :: T, b, a, t, h => by
    unfold findT at h
    split at h
    · rename_i h1
      injection h with h; subst h
      have : sumT shs (u :: T) = tsz shs u + sumT shs T := by simp [sumT]
      exact ⟨by omega, by omega, by simp⟩
    · have := find_ge T _ a t h
      have h2 : sumT shs (u :: T) = tsz shs u + sumT shs T := by simp [sumT]
      have h3 := tsz_pos shs u
      exact ⟨by omega, by omega, by simp [this.2.2]⟩
theorem find_lay {shs : List S65} : ∀ (T : List Thg) (pre : List Int) (post : List Int) (a : Nat) (t : Thg), findT shs T pre.length a = some t →
    ∀ j v, (encT shs t)[j]? = some v → (pre ++ T.flatMap (encT shs) ++ post)[a + j]? = some v
  | [], pre, post, a, t, h => by cases h
  | u :: T, pre, post, a, t, h => fun j v hv => by
    unfold findT at h
    split at h
    · rename_i h1
      injection h with h; subst h
      have hj : j < (encT shs u).length := (List.getElem?_eq_some_iff.1 hv).1
      rw [List.flatMap_cons, List.append_assoc, List.getElem?_append_right (by omega), List.append_assoc, show a + j - pre.length = j by omega, List.getElem?_append_left hj]
      exact hv
    · have := find_lay T (pre ++ encT shs u) post a t (by rw [List.length_append, encT_len]; exact h) j v hv
      rw [List.flatMap_cons]
      rw [← this]
      simp [List.append_assoc]
theorem find_beg {shs : List S65} : ∀ (T : List Thg) (pre post : List Bool) (a : Nat), pre.length ≤ a → a < pre.length + sumT shs T → (pre ++ T.flatMap (begT shs) ++ post)[a]? = some (findT shs T pre.length a).isSome
  | [], pre, post, a, h1, h2 => by simp [sumT] at h2; omega
  | u :: T, pre, post, a, h1, h2 => by
    have h3 : sumT shs (u :: T) = tsz shs u + sumT shs T := by simp [sumT]
    have h4 := tsz_pos shs u
    unfold findT
    by_cases h5 : (pre.length : Int) = (a : Int)
    · rw [if_pos h5, List.flatMap_cons, List.append_assoc, List.getElem?_append_right (by omega), List.append_assoc, show a - pre.length = 0 by omega]
      rfl
    · rw [if_neg h5]
      by_cases h6 : a < pre.length + tsz shs u
      · rw [List.flatMap_cons, List.append_assoc, List.getElem?_append_right (by omega), List.append_assoc, List.getElem?_append_left (by rw [begT_len]; omega)]
        have h7 : findT shs T (pre.length + tsz shs u) (a : Int) = none := by
          cases h8 : findT shs T (pre.length + tsz shs u) (a : Int) with
          | none => rfl
          | some t => have := (find_ge T _ _ t h8).1; omega
        rw [h7]
        unfold begT
        obtain ⟨k, hk⟩ : ∃ k, a - pre.length = k + 1 := ⟨a - pre.length - 1, by omega⟩
        rw [hk, List.getElem?_cons_succ, List.getElem?_replicate, if_pos (by omega)]
        rfl
      · have := find_beg (shs := shs) T (pre ++ begT shs u) post a (by rw [List.length_append, begT_len]; omega) (by rw [List.length_append, begT_len]; omega)
        rw [List.length_append, begT_len] at this
        rw [← this, List.flatMap_cons]
        simp [List.append_assoc]
end Go.Proofs.Ytibhjlmffgabgaa.PAll
