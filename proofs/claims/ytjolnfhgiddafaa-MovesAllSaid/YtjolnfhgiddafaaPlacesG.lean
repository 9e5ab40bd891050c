/-
  Places whose box lay there already: Get and Set (as Places, PlacesSet; the box may be older than the base).
-/
import Derived.Test.YtjolnfhgiddafaaPlacesSet
namespace Go.Proofs.Ytjolnfhgiddafaa.PAll
open Go.RowKit Go.Proofs.YtjolnfhgiddafaaW.PrintWords Go.Proofs.YtjolnfhgiddafaaW.PrintLast Go.Proofs.YtjolnfhgiddafaaW.PrintMore
open Go.Proofs.Ytjolnfhgiddafaa.MapInt Go.Proofs.Ytjolnfhgiddafaa.Moves
set_option linter.unusedVariables false
set_option linter.unusedSimpArgs false
theorem gb_step {W0 w w2 : World} {b : Nat} {row : Option Nat} (h : W0.grownBy w (some b)) (hg : w.grownBy w2 row) (hr : ∀ k, row = some k → W0.heap.size ≤ k ∨ k = b) : W0.grownBy w2 (some b) :=
  ⟨hg.os.trans h.os, hg.tape.trans h.tape, hg.output.trans h.output, Nat.le_trans h.size hg.size, fun k hk hne => by
    rw [hg.block k (Nat.lt_of_lt_of_le hk h.size) (fun e => by
      rcases hr k e.symm with h1 | h1
      · omega
      · exact hne (by rw [h1]))]
    exact h.block k hk hne⟩
structure PG (W0 w : World) (b : Nat) (vA vH : Value) (ats hs : List Int) : Prop where
  gr : W0.grownBy w (some b)
  hB : Blk w b 33 #[vA, vH]
  rA : w.ownsRow W0.heap.size 3 1 vA ats.length (nums .i64 ats)
  rH : w.ownsRow W0.heap.size 3 1 vH hs.length (nums .i64 hs)
  ne : ∀ k, vA.ownBlock = some k → some k ≠ vH.ownBlock
  len : ats.length = hs.length
theorem PG.cA {W0 w : World} {b : Nat} {A : Option Addr} {k c : Nat} {vH : Value} {ats hs : List Int} (h : PG W0 w b (.slice A k c) vH ats hs) : k = ats.length ∧ k ≤ c ∧ Kd.C (Kd.int .i64) w A ats.length ats :=
  Kd.R_reads' (Kd.R_of_own (enc := Value.int .i64) (ok := fun _ => True) h.rA (fun _ _ => trivial))
theorem PG.cH {W0 w : World} {b : Nat} {A : Option Addr} {k c : Nat} {vA : Value} {ats hs : List Int} (h : PG W0 w b vA (.slice A k c) ats hs) : k = hs.length ∧ k ≤ c ∧ Kd.C (Kd.int .i64) w A hs.length hs :=
  Kd.R_reads' (Kd.R_of_own (enc := Value.int .i64) (ok := fun _ => True) h.rH (fun _ _ => trivial))
theorem PG.len64 {W0 w : World} {b : Nat} {vA vH : Value} {ats hs : List Int} (h : PG W0 w b vA vH ats hs) : ats.length ≤ 9223372036854775807 := by
  obtain ⟨A, c, rfl⟩ := MapInt.own_slice' h.rA
  exact Kd.C_max h.cA.2.2
set_option maxHeartbeats 8000000 in
set_option maxRecDepth 100000 in
theorem getG_calls (W0 w : World) (b : Nat) (vA vH : Value) (ats hs : List Int) (x : Int) (h : PG W0 w b vA vH ats hs) (hs9 : ats.length ≤ 1000000) :
    Calls Try.prog 13 #[.pointer (some ⟨b, 0, none⟩), .int .i64 x] w fun e w' => e = .returned (.int .i64 (tellP ats hs x)) ∧ w' = w := by
  obtain ⟨A, c, rfl⟩ := MapInt.own_slice' h.rA
  obtain ⟨A', c', rfl⟩ := MapInt.own_slice' h.rH
  have hb0 : w.cell? ⟨b, 0, none⟩ = some (.slice A ats.length c) := h.hB.cell rfl
  have hb1 : w.cell? ⟨b, 1, none⟩ = some (.slice A' hs.length c') := h.hB.cell rfl
  have H := Aside0.mk h
  have HL := Aside0.mk h.len
  have HT : Aside0 (∀ i (hi : i < ats.length), ats[i] = x → (∀ j (hj : j < i), ats[j]'(by omega) ≠ x) → tellP ats hs x = rd hs (i : Int)) := ⟨fun i hi h1 h2 => by rw [rdAt hs i (by have := h.len; omega)]; exact tellP_at ats hs x i hi (by have := h.len; omega) h1 h2⟩
  have HN : Aside0 (x ∉ ats → tellP ats hs x = x) := ⟨tellP_none ats hs x⟩
  generalize tellP ats hs x = r at *
  clear h
  go_enter Try.func13, Try.ntmps13
  go_wp2_with fail
  go_loopw [5] (fun v5 wr => ∃ i : Nat, i ≤ ats.length ∧ v5 = .int .i64 i ∧ wr = w ∧ Aside0 (∀ j (hj : j < ats.length), j < i → ats[j] ≠ x)) (fun v5 _ => ats.length - (intOf v5).toNat)
  case atStart => exact ⟨0, Nat.zero_le _, rfl, rfl, ⟨fun j _ hj => by omega⟩⟩
  case round =>
    obtain ⟨i, hi, rfl, rfl, HJ⟩ := hrel
    by_cases hlt : i < ats.length
    · have hlt' : (i : Int) < (ats.length : Int) := by omega
      have hlh' : (i : Int) < (hs.length : Int) := by have := HL.out; omega
      obtain ⟨ad, rfl, hc0⟩ := Kd.at_int (H.out.cA).2.2 (i : Int) (by omega) hlt'
      obtain ⟨ad', rfl, hc1⟩ := Kd.at_int (H.out.cH).2.2 (i : Int) (by omega) hlh'
      rw [Int.toNat_natCast] at hc0 hc1
      rw [rdAt ats i hlt] at hc0
      by_cases hx : ats[i] = x
      · have hr := HT.out i hlt hx (fun j hj => HJ.out j (by omega) hj)
        rw [← hr] at hc1
        rw [hx] at hc0
        clear hx hr
        go_wp2_with fail
        (try go_ret)
        exact ⟨rfl, rfl⟩
      · have hx' : (ats[i] == x) = false := by simpa using hx
        have HX := Aside0.mk hx
        clear hx
        obtain ⟨y, hy⟩ : ∃ y, y = ats[i] := ⟨_, rfl⟩
        rw [← hy] at hx' hc0
        clear hy
        go_wp2_with fail
        go_roundw
        case rel => exact ⟨i + 1, by omega, by go_num, by first | rfl | trivial, ⟨fun j hj hji => by
          by_cases e : j = i
          · subst e; exact fun h => HX.out h
          · exact HJ.out j hj (by omega)⟩⟩
        case measure => simp [intOf]; omega
    · have hlt' : ¬ (i : Int) < (ats.length : Int) := by omega
      obtain rfl : i = ats.length := by omega
      have hr := HN.out (fun hm => by
        obtain ⟨j, hj, e⟩ := List.getElem_of_mem hm
        exact HJ.out j hj hj e)
      subst hr
      go_wp2_with fail
      (try go_ret)
      exact ⟨rfl, rfl⟩
/-- The same, the boxes' words and the rows apart (while Set goes on). -/
structure PBG (W0 w : World) (b : Nat) (vA vH uA uH : Value) (ats hs : List Int) : Prop where
  gr : W0.grownBy w (some b)
  hB : Blk w b 33 #[vA, vH]
  rA : w.ownsRow W0.heap.size 3 1 uA ats.length (nums .i64 ats)
  rH : w.ownsRow W0.heap.size 3 1 uH hs.length (nums .i64 hs)
  ne : ∀ k, uA.ownBlock = some k → some k ≠ uH.ownBlock
section
variable {W0 w w2 : World} {b : Nat} {vA vH uA uH v' : Value} {ats hs : List Int}
theorem PG.pb (h : PG W0 w b vA vH ats hs) : PBG W0 w b vA vH vA vH ats hs := ⟨h.gr, h.hB, h.rA, h.rH, h.ne⟩
theorem PBG.madeA (h : PBG W0 w b vA vH uA uH ats hs) {cs : Array Value} {x : Int} (ho : w2.ownsRow W0.heap.size 3 1 v' (ats.length + 1) (nums .i64 ats ++ [.int .i64 x])) (hg : (w.alloc (.cells cs 3)).grownBy w2 uA.ownBlock) (hw : v'.ownBlock = uA.ownBlock ∨ v'.ownBlock = some (w.heap.size + 1)) : PBG W0 w2 b vA vH v' uH (ats ++ [x]) hs := by
  have hg' := grown_alloc hg
  refine ⟨gb_step h.gr hg' (fun k hk => .inl (MapInt.own_row_lt h.rA k hk).2), h.hB.kept hg' (h.hB.ne_own h.rA (by decide)), by rw [List.length_append, nums_append]; exact ho, MapInt.own_kept h.rH hg' (fun k hk e => h.ne k e.symm hk.symm), fun k hk => ?_⟩
  rcases hw with e | e
  · exact h.ne k (e ▸ hk)
  · rw [e] at hk
    injection hk with hk; subst hk
    intro e2
    have := (MapInt.own_row_lt h.rH _ e2.symm).1
    omega
theorem PBG.madeH (h : PBG W0 w b vA vH uA uH ats hs) {cs : Array Value} {x : Int} (ho : w2.ownsRow W0.heap.size 3 1 v' (hs.length + 1) (nums .i64 hs ++ [.int .i64 x])) (hg : (w.alloc (.cells cs 3)).grownBy w2 uH.ownBlock) (hw : v'.ownBlock = uH.ownBlock ∨ v'.ownBlock = some (w.heap.size + 1)) : PBG W0 w2 b vA vH uA v' ats (hs ++ [x]) := by
  have hg' := grown_alloc hg
  refine ⟨gb_step h.gr hg' (fun k hk => .inl (MapInt.own_row_lt h.rH k hk).2), h.hB.kept hg' (h.hB.ne_own h.rH (by decide)), MapInt.own_kept h.rA hg' h.ne, by rw [List.length_append, nums_append]; exact ho, fun k hk => ?_⟩
  rcases hw with e | e
  · rw [e]; exact h.ne k hk
  · rw [e]
    intro e2
    injection e2 with e2; subst e2
    have := (MapInt.own_row_lt h.rA _ hk).1
    omega
theorem PBG.box (h : PBG W0 w b vA vH uA uH ats hs) {vA' vH' : Value} (hb : Blk w2 b 33 #[vA', vH']) (hg : w.grownBy w2 (some b)) : PBG W0 w2 b vA' vH' uA uH ats hs :=
  ⟨gb_step h.gr hg (fun k hk => by cases hk; exact .inr rfl), hb, MapInt.own_kept h.rA hg (own_apart_obj h.rA h.hB (fun _ e => by cases e)), MapInt.own_kept h.rH hg (own_apart_obj h.rH h.hB (fun _ e => by cases e)), h.ne⟩
theorem PG.put {g n cap : Nat} (h : PG W0 w b vA (.slice (some ⟨g, 0, none⟩) n cap) ats hs) (i : Nat) (v : Int) : PG W0 (w.setCell ⟨g, i, none⟩ (.int .i64 v)) b vA (.slice (some ⟨g, 0, none⟩) n cap) ats (hs.set i v) := by
  have hn : n = hs.length := by
    obtain ⟨A, c, e⟩ := MapInt.own_slice' h.rH
    injection e
  have hrH := h.rH
  rw [← hn] at hrH
  obtain ⟨s1, s2⟩ := own_store (k := .i64) hrH (i : Int) v
  rw [Int.toNat_natCast] at s1 s2
  refine ⟨gb_step h.gr s2 (fun k hk => .inl ?_), h.hB.kept s2 ?_, MapInt.own_kept h.rA s2 h.ne, by rw [List.length_set, ← hn]; exact s1, h.ne, by rw [List.length_set]; exact h.len⟩
  · exact (MapInt.own_row_lt h.rH k hk).2
  · exact h.hB.ne_own h.rH (by decide)
end
set_option maxHeartbeats 8000000 in
set_option maxRecDepth 100000 in
theorem setG_calls (W0 w : World) (b : Nat) (vA vH : Value) (ats hs : List Int) (x v : Int) (h : PG W0 w b vA vH ats hs) (hs9 : ats.length ≤ 1000000) :
    Calls Try.prog 12 #[.pointer (some ⟨b, 0, none⟩), .int .i64 x, .int .i64 v] w fun e w' => e = .returned (.tuple #[]) ∧ ∃ vA' vH' ats' hs', PG W0 w' b vA' vH' ats' hs' ∧ (∀ y, tellP ats' hs' y = if y = x then v else tellP ats hs y) ∧ ats'.length ≤ ats.length + 1 := by
  obtain ⟨A, c, rfl⟩ := MapInt.own_slice' h.rA
  obtain ⟨A', c', rfl⟩ := MapInt.own_slice' h.rH
  have hb0 : w.cell? ⟨b, 0, none⟩ = some (.slice A ats.length c) := h.hB.cell rfl
  have hb1 : w.cell? ⟨b, 1, none⟩ = some (.slice A' hs.length c') := h.hB.cell rfl
  have H := Aside0.mk h
  have HL := Aside0.mk h.len
  have hh9 : hs.length ≤ 1000000 := by have := h.len; omega
  clear h
  go_enter Try.func12, Try.ntmps12
  go_wp2_with fail
  go_loopw [6] (fun v5 wr => ∃ i : Nat, i ≤ ats.length ∧ v5 = .int .i64 i ∧ wr = w ∧ Aside0 (∀ j (hj : j < ats.length), j < i → ats[j] ≠ x)) (fun v5 _ => ats.length - (intOf v5).toNat)
  case atStart => exact ⟨0, Nat.zero_le _, rfl, rfl, ⟨fun j _ hj => by omega⟩⟩
  case round =>
    obtain ⟨i, hi, rfl, rfl, HJ⟩ := hrel
    by_cases hlt : i < ats.length
    · have hlt' : (i : Int) < (ats.length : Int) := by omega
      have hlh' : (i : Int) < (hs.length : Int) := by have := HL.out; omega
      obtain ⟨ad, rfl, hc0⟩ := Kd.at_int (H.out.cA).2.2 (i : Int) (by omega) hlt'
      rw [Int.toNat_natCast] at hc0
      rw [rdAt ats i hlt] at hc0
      by_cases hx : ats[i] = x
      · have HT := Aside0.mk (tellP_set ats hs x v i hlt HL.out hx (fun j hj => HJ.out j (by omega) hj))
        rw [hx] at hc0
        clear hx
        obtain ⟨g, cap, e, hcap, hgc⟩ := H.out.rH.form (by omega)
        injection e with e1 e2 e3
        subst e1
        subst e3
        have hrH := H.out.rH
        obtain ⟨hcS, hfS⟩ := own_at hrH (i : Int) (by omega) hlh'
        rw [Int.toNat_natCast] at hcS hfS
        have hcS' : wr.cell? ((⟨g, 0, none⟩ : Addr).add i) = some (.int .i64 (rd hs (i : Int))) := by rw [add_plain]; exact hcS
        have hfS' : wr.frozen? ((⟨g, 0, none⟩ : Addr).add i) = false := by rw [add_plain]; exact hfS
        clear hrH
        go_wp2_with fail
        refine bodyPost_ret (results_none rfl _ _ _) rfl ?_
        exact ⟨rfl, _, _, ats, hs.set i v, H.out.put i v, HT.out, by omega⟩
      · have hx' : (ats[i] == x) = false := by simpa using hx
        have HX := Aside0.mk hx
        clear hx
        obtain ⟨y, hy⟩ : ∃ y, y = ats[i] := ⟨_, rfl⟩
        rw [← hy] at hx' hc0
        clear hy
        go_wp2_with fail
        go_roundw
        case rel => exact ⟨i + 1, by omega, by go_num, by first | rfl | trivial, ⟨fun j hj hji => by
          by_cases e : j = i
          · subst e; exact fun h => HX.out h
          · exact HJ.out j hj (by omega)⟩⟩
        case measure => simp [intOf]; omega
    · have hlt' : ¬ (i : Int) < (ats.length : Int) := by omega
      obtain rfl : i = ats.length := by omega
      have HNX : Aside0 (x ∉ ats) := ⟨fun hm => by
        obtain ⟨j, hj, e⟩ := List.getElem_of_mem hm
        exact HJ.out j hj hj e⟩
      have HP := Aside0.mk H.out.pb
      go_wp2_with (first | (at_builtin; refine app_new_where rfl (.tmp 36) (.tmp 38) 24 3 (.int .i64 0) 1 8 rfl Try.underlying24 info3 rfl (by decide) rfl HP.out.rA _ 1 rfl rfl rfl (fun u hu => by simp at hu; subst hu; rfl) (by omega) (by omega) HP.out.gr.size ?_; intro v2 w3 ho hg hw; have n_ := Aside0.mk (HP.out.madeA (x := x) ho hg hw); clear HP; have HP := n_; clear n_; clear ho hg hw) | (refine cell_store rfl 24 (.tmp 41) (.tmp 39) rfl oi24 (q := 0) rfl rfl (own_one HP.out.rA) HP.out.hB (by simp) ?_; intro w4 hb4 hg4 hz4; have n_ := Aside0.mk (HP.out.box hb4 hg4); clear HP; have HP := n_; clear n_; clear hb4 hg4 hz4) | (refine cell_load rfl 24 (.tmp 45) rfl Try.underlying24 rfl rfl (HP.out.hB.cell (o := 1) rfl) ?_) | (at_builtin; refine app_new_where rfl (.tmp 46) (.tmp 48) 24 3 (.int .i64 0) 1 8 rfl Try.underlying24 info3 rfl (by decide) rfl HP.out.rH _ 1 rfl rfl rfl (fun u hu => by simp at hu; subst hu; rfl) (by omega) (by omega) HP.out.gr.size ?_; intro v2 w3 ho hg hw; have n_ := Aside0.mk (HP.out.madeH (x := v) ho hg hw); clear HP; have HP := n_; clear n_; clear ho hg hw) | (refine cell_store rfl 24 (.tmp 51) (.tmp 49) rfl oi24 (q := 1) rfl rfl (own_one HP.out.rH) HP.out.hB (by simp) ?_; intro w4 hb4 hg4 hz4; have n_ := Aside0.mk (HP.out.box hb4 hg4); clear HP; have HP := n_; clear n_; clear hb4 hg4 hz4))
      go_end0
      exact ⟨rfl, _, _, ats ++ [x], hs ++ [v], ⟨HP.out.gr, HP.out.hB, HP.out.rA, HP.out.rH, HP.out.ne, by have := HL.out; simp; omega⟩, tellP_app ats hs x v HL.out HNX.out, by simp⟩
end Go.Proofs.Ytjolnfhgiddafaa.PAll
