import Derived.Test.YtedmhopginmjaaaZG7
import Derived.Test.YtedmhopginmjaaaZG1
import Derived.Test.YtedmhopginmjaaaZG0
import Derived.IntWalk
namespace Go.Proofs.Ytedmhopginmjaaa.PAll
open Go.RowKit Go.Proofs.YtedmhopginmjaaaW.PrintWords Go.Proofs.YtedmhopginmjaaaW.PrintLast Go.Proofs.YtedmhopginmjaaaW.PrintMore
open Go.Proofs.Ytedmhopginmjaaa.MapInt
set_option linter.unusedVariables false
set_option linter.unusedSimpArgs false
structure RS (W0 w : World) (g : Nat) (l : List Int) (bad : Bool) : Prop where
  bel : Below W0.heap.size W0 w
  lg : W0.heap.size ≤ g
  u8 : ∀ x ∈ l, 0 ≤ x ∧ x < 256
  max : l.length ≤ 9223372036854775807
  box : ∃ A c, Blk w g 58 #[.slice A l.length c, .bool bad] ∧ l.length ≤ c ∧ Kd.C (Kd.int .u8) W0 A l.length l
def numV (l : List Int) : Int := l.foldl (fun x c => x * 256 + c) 0
def numF (l : List Int) (bad : Bool) (n : Int) : Int × List Int × Bool :=
  if n < 1 ∨ 8 < n then (0, l, bad) else if (l.length : Int) < n then (0, [], true) else (numV (l.take n.toNat), l.drop n.toNat, bad)
def takeF (l : List Int) (bad : Bool) (n : Int) : ByteArray × List Int × Bool :=
  if n < 0 ∨ (l.length : Int) < n then (⟨#[]⟩, [], true) else (strOfNums (l.take n.toNat), l.drop n.toNat, bad)
theorem numV_snoc (l : List Int) (c : Int) : numV (l ++ [c]) = numV l * 256 + c := by unfold numV; rw [List.foldl_append]; rfl
theorem numV_bound : ∀ (n : Nat) (l : List Int), l.length ≤ n → (∀ x ∈ l, 0 ≤ x ∧ x < 256) → 0 ≤ numV l ∧ numV l < 256 ^ l.length := by
  intro n
  induction n with
  | zero => intro l hl _; cases l with
    | nil => exact ⟨by decide, by decide⟩
    | cons a l => simp at hl
  | succ n ih =>
    intro l hl h
    rcases List.eq_nil_or_concat l with rfl | ⟨m, c, rfl⟩
    · exact ⟨by decide, by decide⟩
    · rw [List.concat_eq_append] at *
      rw [numV_snoc]
      have h1 := ih m (by simp at hl; omega) (fun x hx => h x (by simp [hx]))
      have h2 := h c (by simp)
      rw [List.length_append, List.length_singleton, Int.pow_succ]
      omega
theorem or_join (X y : Int) (h1 : 0 ≤ X) (h2 : X < 72057594037927936) (h3 : 0 ≤ y) (h4 : y < 256) : bits .or .u64 (X * 256) y = X * 256 + y :=
  bits_join .u64 64 (by decide) (fun n h1 h2 => by rw [IntKind.wrap_u64]; omega) 8 (X * 256) y (by omega) (by omega) (by omega) h3 (by omega) (by omega)
section
variable {W0 w w2 : World} {g : Nat} {l : List Int} {bad : Bool}
theorem RS.below (h : RS W0 w g l bad) (hb : Below w.heap.size w w2) : RS W0 w2 g l bad := by
  obtain ⟨A, c, hB, hc, hC⟩ := h.box
  exact ⟨below_step h.bel hb, h.lg, h.u8, h.max, A, c, hB.below hb, hc, hC⟩
theorem RS.kept {row : Option Nat} (h : RS W0 w g l bad) (hg : w.grownBy w2 row) (hne : some g ≠ row) (hr : ∀ k, row = some k → W0.heap.size ≤ k) : RS W0 w2 g l bad := by
  obtain ⟨A, c, hB, hc, hC⟩ := h.box
  exact ⟨h.bel.grown hg h.bel.size hr, h.lg, h.u8, h.max, A, c, hB.kept hg hne, hc, hC⟩
theorem RS.boxed {l2 : List Int} {bad2 : Bool} {A2 : Option Addr} {c2 : Nat} (h : RS W0 w g l bad) (hB : Blk w2 g 58 #[.slice A2 l2.length c2, .bool bad2]) (hg : w.grownBy w2 (some g)) (h8 : ∀ x ∈ l2, x ∈ l) (hm : l2.length ≤ l.length) (hc : l2.length ≤ c2) (hC : Kd.C (Kd.int .u8) W0 A2 l2.length l2) : RS W0 w2 g l2 bad2 :=
  ⟨h.bel.grown hg h.bel.size (fun k hk => by cases hk; exact h.lg), h.lg, fun x hx => h.u8 x (h8 x hx), Nat.le_trans hm h.max, A2, c2, hB, hc, hC⟩
end
theorem sizeR : (Try.prog.info? 5).map (fun i => (i.zero, i.size, i.bytes)) = some (some (.int .u8 0), 1, 1) := by kernel_rfl
set_option maxHeartbeats 8000000 in
set_option maxRecDepth 100000 in
theorem left_calls (W0 w : World) (g : Nat) (l : List Int) (bad : Bool) (h : RS W0 w g l bad) :
    Calls Try.prog 14 #[.pointer (some ⟨g, 0, none⟩)] w fun e w' => e = .returned (.tuple #[.int .i64 l.length, .bool (!bad)]) ∧ Below w.heap.size w w' := by
  obtain ⟨A, c, hB, hc, hC⟩ := h.box
  have h0 : w.cell? ⟨g, 0, none⟩ = some (.slice A l.length c) := hB.cell rfl
  have h1 : w.cell? ⟨g, 1, none⟩ = some (.bool bad) := hB.cell rfl
  go_enter Try.func14, Try.ntmps14
  go_wp2_with fail
  go_quiet (fail)
  go_wp2_with fail
  go_ret2
  exact ⟨rfl, pw_below_drewN (Below.refl _ _) _⟩
set_option maxHeartbeats 8000000 in
set_option maxRecDepth 100000 in
theorem num_out (W0 w : World) (g : Nat) (l : List Int) (bad : Bool) (n : Int) (h : RS W0 w g l bad) (hn : n < 1 ∨ 8 < n) :
    Calls Try.prog 10 #[.pointer (some ⟨g, 0, none⟩), .int .i64 n] w fun e w' => e = .returned (.int .u64 0) ∧ w' = w := by
  by_cases h1 : n < 1
  · go_enter Try.func10, Try.ntmps10
    go_wp2_with fail
    (try go_ret)
    exact ⟨rfl, rfl⟩
  · have h2 : 8 < n := by omega
    go_enter Try.func10, Try.ntmps10
    go_wp2_with fail
    (try go_ret)
    exact ⟨rfl, rfl⟩
set_option maxHeartbeats 8000000 in
set_option maxRecDepth 100000 in
theorem num_short (W0 w : World) (g : Nat) (l : List Int) (bad : Bool) (n : Int) (h : RS W0 w g l bad) (hn : 1 ≤ n ∧ n ≤ 8) (hl : (l.length : Int) < n) :
    Calls Try.prog 10 #[.pointer (some ⟨g, 0, none⟩), .int .i64 n] w fun e w' => e = .returned (.int .u64 0) ∧ RS W0 w' g [] true ∧ w.grownBy w' (some g) := by
  obtain ⟨A, c, hB, hc, hC⟩ := h.box
  have h0 : w.cell? ⟨g, 0, none⟩ = some (.slice A l.length c) := hB.cell rfl
  have hn1 : ¬ n < 1 := by omega
  have hn8 : ¬ 8 < n := by omega
  obtain ⟨q1, q2, q3⟩ := setCell_blk (q := 0) (v := .slice none 0 0) hB (by simp)
  obtain ⟨r1, r2, r3⟩ := setCell_blk (q := 1) (v := .bool true) q1 (by simp)
  have HR := Aside0.mk (h.boxed (l2 := []) (bad2 := true) (A2 := none) (c2 := 0) (by simpa using r1) (q2.trans r2) (by simp) (by simp) (by simp) ⟨rfl, by simp, fun h => absurd h (by simp)⟩)
  have HG := Aside0.mk (q2.trans r2)
  have f0 : w.frozen? ⟨g, 0, none⟩ = false := by simp [World.frozen?, show w.heap[g]? = _ from hB]
  have f1 : w.frozen? ⟨g, 1, none⟩ = false := by simp [World.frozen?, show w.heap[g]? = _ from hB]
  have h1 : w.cell? ⟨g, 1, none⟩ = some (.bool bad) := hB.cell rfl
  clear q1 q2 q3 r1 r2 r3
  go_enter Try.func10, Try.ntmps10
  go_wp2_with fail
  (try go_ret)
  exact ⟨rfl, HR.out, HG.out⟩
set_option maxHeartbeats 8000000 in
set_option maxRecDepth 100000 in
theorem num_ok (W0 w : World) (g : Nat) (l : List Int) (bad : Bool) (n : Nat) (h : RS W0 w g l bad) (hn : 1 ≤ n ∧ n ≤ 8) (hl : n ≤ l.length) :
    Calls Try.prog 10 #[.pointer (some ⟨g, 0, none⟩), .int .i64 n] w fun e w' => e = .returned (.int .u64 (numV (l.take n))) ∧ RS W0 w' g (l.drop n) bad ∧ w.grownBy w' (some g) := by
  obtain ⟨A, c, hB, hc, hC⟩ := h.box
  have h0 : w.cell? ⟨g, 0, none⟩ = some (.slice A l.length c) := hB.cell rfl
  have h1 : w.cell? ⟨g, 1, none⟩ = some (.bool bad) := hB.cell rfl
  have hn1 : ¬ (n : Int) < 1 := by omega
  have hn8 : ¬ 8 < (n : Int) := by omega
  have hnl : ¬ (l.length : Int) < (n : Int) := by omega
  have hlm := h.max
  obtain ⟨i8, ii1, ii2, ii3, ii4⟩ : ∃ i, Try.prog.info? 5 = some i ∧ i.zero = some (.int .u8 0) ∧ i.size = 1 ∧ i.bytes = 1 := by
    obtain ⟨i, a, b⟩ := Option.map_eq_some_iff.1 sizeR
    simp only [Prod.mk.injEq] at b
    exact ⟨i, a, b.1, b.2.1, b.2.2⟩
  have hct := cut_to (P := Try.prog) 22 5 .i64 Try.underlying22 ii1 A l.length c (n : Int) (by omega) (by omega) hc
  have hcf := cut_from (P := Try.prog) 22 5 .i64 Try.underlying22 ii1 1 ii3 A l.length c (n : Int) (by omega) (by omega)
  rw [Int.toNat_natCast] at hct hcf
  have hCd := Kd.C_drop (k := Kd.int .u8) hC hl hc
  obtain ⟨A2, hA2⟩ : ∃ A2, A2 = (if c = n then A else A.map (fun x => x.add (n * 1))) := ⟨_, rfl⟩
  rw [← hA2] at hcf
  have hCd2 : Kd.C (Kd.int .u8) W0 A2 (l.drop n).length (l.drop n) := by rw [hA2]; exact hCd
  obtain ⟨q1, q2, q3⟩ := setCell_blk (q := 0) (v := .slice A2 (l.length - n) (c - n)) hB (by simp)
  have HR := Aside0.mk (h.boxed (l2 := l.drop n) (bad2 := bad) (A2 := A2) (c2 := c - n) (by rw [List.length_drop]; simpa using q1) q2 (fun x hx => List.mem_of_mem_drop hx) (by rw [List.length_drop]; omega) (by rw [List.length_drop]; omega) hCd2)
  have HG := Aside0.mk q2
  have f0 : w.frozen? ⟨g, 0, none⟩ = false := by simp [World.frozen?, show w.heap[g]? = _ from hB]
  have HC := Aside0.mk (Kd.C_below hC h.bel)
  have HL8 := Aside0.mk h.u8
  clear q1 q2 q3 hC hCd hCd2 hA2 h
  go_enter Try.func10, Try.ntmps10
  go_wp2_with fail
  go_loopw [5, 38] (fun v5 v38 wr => ∃ i : Nat, i ≤ n ∧ v38 = .int .i64 i ∧ v5 = .int .u64 (numV (l.take i)) ∧ wr = w) (fun _ v38 _ => n - (intOf v38).toNat)
  case atStart => exact ⟨0, Nat.zero_le _, rfl, rfl, rfl⟩
  case round =>
    obtain ⟨i, hi, rfl, rfl, rfl⟩ := hrel
    by_cases hlt : i < n
    · have hlt' : (i : Int) < (n : Int) := by omega
      obtain ⟨ad, rfl, hcx⟩ := Kd.at_int HC.out (i : Int) (by omega) (by omega)
      rw [Int.toNat_natCast] at hcx
      have hTK : l.take (i + 1) = l.take i ++ [rd l (i : Int)] := by
        rw [List.take_succ_eq_append_getElem (by omega)]; unfold rd; simp [List.getD_eq_getElem?_getD, show i < l.length by omega]
      have hrd := HL8.out (rd l (i : Int)) (by unfold rd; simp [List.getD_eq_getElem?_getD, show i < l.length by omega])
      have hNB := numV_bound _ (l.take i) (Nat.le_refl _) (fun x hx => HL8.out x (List.mem_of_mem_take hx))
      have HNS : Aside0 (numV (l.take (i + 1)) = numV (l.take i) * 256 + rd l (i : Int)) := ⟨by rw [hTK, numV_snoc]⟩
      rw [List.length_take, Nat.min_eq_left (by omega)] at hNB
      have hpw : (256 : Int) ^ i ≤ 256 ^ 7 := by
        exact_mod_cast Nat.pow_le_pow_right (by decide) (show i ≤ 7 by omega)
      generalize numV (l.take i) = X at *
      generalize rd l (i : Int) = y at *
      have hX : 0 ≤ X ∧ X < 72057594037927936 := by
        have : (256 : Int) ^ 7 = 72057594037927936 := by decide
        omega
      have hor : bits .or .u64 (X * 256) y = X * 256 + y := or_join X y hX.1 hX.2 hrd.1 hrd.2
      clear hNB hpw hTK
      go_wp2_with fail
      go_roundw
      case rel => exact ⟨i + 1, by omega, by go_num, by rw [HNS.out], by first | rfl | trivial⟩
      case measure => simp [intOf]; omega
    · have hlt' : ¬ (i : Int) < (n : Int) := by omega
      obtain rfl : n = i := by omega
      go_wp2_with fail
      (try go_ret)
      exact ⟨rfl, HR.out, HG.out⟩
set_option maxHeartbeats 8000000 in
set_option maxRecDepth 100000 in
theorem take_short (W0 w : World) (g : Nat) (l : List Int) (bad : Bool) (n : Int) (h : RS W0 w g l bad) (hn : n < 0 ∨ (l.length : Int) < n) :
    Calls Try.prog 12 #[.pointer (some ⟨g, 0, none⟩), .int .i64 n] w fun e w' => e = .returned (.string ⟨#[]⟩) ∧ RS W0 w' g [] true ∧ w.grownBy w' (some g) := by
  obtain ⟨A, c, hB, hc, hC⟩ := h.box
  have h0 : w.cell? ⟨g, 0, none⟩ = some (.slice A l.length c) := hB.cell rfl
  obtain ⟨q1, q2, q3⟩ := setCell_blk (q := 0) (v := .slice none 0 0) hB (by simp)
  obtain ⟨r1, r2, r3⟩ := setCell_blk (q := 1) (v := .bool true) q1 (by simp)
  have HR := Aside0.mk (h.boxed (l2 := []) (bad2 := true) (A2 := none) (c2 := 0) (by simpa using r1) (q2.trans r2) (by simp) (by simp) (by simp) ⟨rfl, by simp, fun h => absurd h (by simp)⟩)
  have HG := Aside0.mk (q2.trans r2)
  have f0 : w.frozen? ⟨g, 0, none⟩ = false := by simp [World.frozen?, show w.heap[g]? = _ from hB]
  have f1 : w.frozen? ⟨g, 1, none⟩ = false := by simp [World.frozen?, show w.heap[g]? = _ from hB]
  have h1 : w.cell? ⟨g, 1, none⟩ = some (.bool bad) := hB.cell rfl
  clear q1 q2 q3 r1 r2 r3
  by_cases hn0 : n < 0
  · go_enter Try.func12, Try.ntmps12
    go_wp2_with fail
    (try go_ret)
    exact ⟨rfl, HR.out, HG.out⟩
  · have hln : (l.length : Int) < n := by omega
    go_enter Try.func12, Try.ntmps12
    go_wp2_with fail
    (try go_ret)
    exact ⟨rfl, HR.out, HG.out⟩
set_option maxHeartbeats 8000000 in
set_option maxRecDepth 100000 in
theorem take_ok (W0 w : World) (g : Nat) (l : List Int) (bad : Bool) (n : Nat) (h : RS W0 w g l bad) (hl : n ≤ l.length) :
    Calls Try.prog 12 #[.pointer (some ⟨g, 0, none⟩), .int .i64 n] w fun e w' => e = .returned (.string (strOfNums (l.take n))) ∧ RS W0 w' g (l.drop n) bad ∧ w.grownBy w' (some g) := by
  obtain ⟨A, c, hB, hc, hC⟩ := h.box
  have h0 : w.cell? ⟨g, 0, none⟩ = some (.slice A l.length c) := hB.cell rfl
  have h1 : w.cell? ⟨g, 1, none⟩ = some (.bool bad) := hB.cell rfl
  have hnl : ¬ (l.length : Int) < (n : Int) := by omega
  have hlm := h.max
  obtain ⟨i8, ii1, ii2, ii3, ii4⟩ : ∃ i, Try.prog.info? 5 = some i ∧ i.zero = some (.int .u8 0) ∧ i.size = 1 ∧ i.bytes = 1 := by
    obtain ⟨i, a, b⟩ := Option.map_eq_some_iff.1 sizeR
    simp only [Prod.mk.injEq] at b
    exact ⟨i, a, b.1, b.2.1, b.2.2⟩
  have hct := cut_to (P := Try.prog) 22 5 .i64 Try.underlying22 ii1 A l.length c (n : Int) (by omega) (by omega) hc
  have hcf := cut_from (P := Try.prog) 22 5 .i64 Try.underlying22 ii1 1 ii3 A l.length c (n : Int) (by omega) (by omega)
  rw [Int.toNat_natCast] at hct hcf
  have hCd := Kd.C_drop (k := Kd.int .u8) hC hl hc
  obtain ⟨A2, hA2⟩ : ∃ A2, A2 = (if c = n then A else A.map (fun x => x.add (n * 1))) := ⟨_, rfl⟩
  rw [← hA2] at hcf
  have hCd2 : Kd.C (Kd.int .u8) W0 A2 (l.drop n).length (l.drop n) := by rw [hA2]; exact hCd
  obtain ⟨q1, q2, q3⟩ := setCell_blk (q := 0) (v := .slice A2 (l.length - n) (c - n)) hB (by simp)
  have HR := Aside0.mk (h.boxed (l2 := l.drop n) (bad2 := bad) (A2 := A2) (c2 := c - n) (by rw [List.length_drop]; simpa using q1) q2 (fun x hx => List.mem_of_mem_drop hx) (by rw [List.length_drop]; omega) (by rw [List.length_drop]; omega) hCd2)
  have HG := Aside0.mk q2
  have f0 : w.frozen? ⟨g, 0, none⟩ = false := by simp [World.frozen?, show w.heap[g]? = _ from hB]
  have hst : (convert 22 9 (.slice A n c)).run Try.prog w = .ok (.string (strOfNums (l.take n))) w := by
    have h3 := Kd.C_string (P := Try.prog) (src := 22) (dst := 9) (c := c) Try.underlying22 Try.underlying5 Try.underlying9 (Kd.C_take (Kd.C_below hC h.bel) hl)
    rw [List.length_take, Nat.min_eq_left hl] at h3
    exact h3
  clear q1 q2 q3 hC hCd hCd2 hA2 h
  go_enter Try.func12, Try.ntmps12
  go_wp2_with fail
  (try go_ret)
  exact ⟨rfl, HR.out, HG.out⟩
theorem num_calls (W0 w : World) (g : Nat) (l : List Int) (bad : Bool) (n : Int) (h : RS W0 w g l bad) :
    Calls Try.prog 10 #[.pointer (some ⟨g, 0, none⟩), .int .i64 n] w fun e w' => e = .returned (.int .u64 (numF l bad n).1) ∧ RS W0 w' g (numF l bad n).2.1 (numF l bad n).2.2 ∧ w.grownBy w' (some g) := by
  unfold numF
  by_cases h1 : n < 1 ∨ 8 < n
  · rw [if_pos h1]
    exact (num_out W0 w g l bad n h h1).mono fun e w' ⟨he, hw⟩ => ⟨he, hw ▸ h, hw ▸ World.grownBy.refl _ _⟩
  · rw [if_neg h1]
    by_cases h2 : (l.length : Int) < n
    · rw [if_pos h2]
      exact num_short W0 w g l bad n h (by omega) h2
    · rw [if_neg h2]
      obtain ⟨m, rfl⟩ : ∃ m : Nat, n = m := ⟨n.toNat, by omega⟩
      rw [Int.toNat_natCast]
      exact num_ok W0 w g l bad m h (by omega) (by omega)
theorem take_calls (W0 w : World) (g : Nat) (l : List Int) (bad : Bool) (n : Int) (h : RS W0 w g l bad) :
    Calls Try.prog 12 #[.pointer (some ⟨g, 0, none⟩), .int .i64 n] w fun e w' => e = .returned (.string (takeF l bad n).1) ∧ RS W0 w' g (takeF l bad n).2.1 (takeF l bad n).2.2 ∧ w.grownBy w' (some g) := by
  unfold takeF
  by_cases h1 : n < 0 ∨ (l.length : Int) < n
  · rw [if_pos h1]
    exact take_short W0 w g l bad n h h1
  · rw [if_neg h1]
    obtain ⟨m, rfl⟩ : ∃ m : Nat, n = m := ⟨n.toNat, by omega⟩
    rw [Int.toNat_natCast]
    exact take_ok W0 w g l bad m h (by omega)
end Go.Proofs.Ytedmhopginmjaaa.PAll
