import Derived.Test.YtibhjlmffgabgaaZChainPure
import Derived.Test.YtibhjlmffgabgaaZWalkFills
namespace Go.Proofs.Ytibhjlmffgabgaa.PAll
open Go.RowKit Go.Proofs.YtibhjlmffgabgaaW.PrintWords Go.Proofs.YtibhjlmffgabgaaW.PrintLast Go.Proofs.YtibhjlmffgabgaaW.PrintMore
open Go.Proofs.Ytibhjlmffgabgaa.MapInt
set_option linter.unusedVariables false
set_option linter.unusedSimpArgs false
section
variable {W w : World} {g : Nat}
theorem ch_object (h : AW W w g 20000 [] [] 0) : Calls Try.prog 15 #[.pointer (some ⟨g, 0, none⟩), .slice (some ⟨w.heap.size, 0, none⟩) 2 2] (w.alloc (.cells #[.int .i64 3, .int .i64 2] 3)) fun e w' => e = .returned (.int .i64 0) ∧ AW W w' g 20000 [⟨[true, false], false, false⟩] [] 0 :=
  object_aw (h.below (below_alloc (Below.refl _ _) _)) (by decide) (lit_C w [3, 2] (by decide)) (by decide) (by decide)
theorem ch_array (h : AW W w g 20000 [⟨[true, false], false, false⟩] [] 0) : Calls Try.prog 11 #[.pointer (some ⟨g, 0, none⟩), .int .i64 1] w fun e w' => e = .returned (.int .i64 1) ∧ AW W w' g 20000 chS [] 0 := array_aw h (by decide) 1
theorem ch_makeN {T : List Thg} (h : AW W w g 20000 chS T 0) (hs : sumT chS T ≤ 10000) : Calls Try.prog 12 #[.pointer (some ⟨g, 0, none⟩), .int .i64 0, .int .i64 0] w fun e w' => e = .returned (.int .i64 (1 + ((sumT chS T : Nat) : Int))) ∧ AW W w' g 20000 chS (T ++ [nod 0 0]) 0 := by
  have := make_aw h 0 0
  have e : makeF 20000 chS T 0 0 = (T ++ [nod 0 0], 1 + ((sumT chS T : Nat) : Int)) := by
    unfold makeF freeF
    rw [if_neg (by rw [show sizeF chS 0 0 = 3 from rfl]; omega)]
    rfl
  rw [e] at this
  exact this
theorem ch_makeA {T : List Thg} (h : AW W w g 20000 chS T 0) (hs : sumT chS T ≤ 10000) {r : Nat} (hr : r ≤ 49) : Calls Try.prog 12 #[.pointer (some ⟨g, 0, none⟩), .int .i64 1, .int .i64 (r : Int)] w fun e w' => (∃ v, e = .returned (.int .i64 v)) ∧ AW W w' g 20000 chS (T ++ [arr r]) 0 := by
  refine (make_aw h 1 r).mono ?_
  have e : makeF 20000 chS T 1 r = (T ++ [arr r], 1 + ((sumT chS T : Nat) : Int)) := by
    have h1 : (shOf chS (1 : Int).toNat).f1 = true := rfl
    have h2 : chS.length = 2 := rfl
    have hz : sizeF chS 1 (r : Int) = 2 + r := by
      unfold sizeF
      rw [if_neg (by omega), if_pos h1]
    have hn : newT chS 1 (r : Int) = arr r := by
      unfold newT arr
      rw [if_pos h1, Int.toNat_natCast]; rfl
    unfold makeF freeF
    rw [hz, if_neg (by omega), hn]
  rw [e]
  rintro e w' ⟨rfl, h2⟩
  exact ⟨⟨_, rfl⟩, h2⟩
end
structure CH (W w : World) (g : Nat) (rs : List Nat) : Prop where
  aw : AW W w g 20000 chS (chT 1 0 rs) 0
  le : ∀ r ∈ rs, r ≤ 49
theorem CH.sum {W w : World} {g : Nat} {rs : List Nat} (h : CH W w g rs) (hl : rs.length ≤ 100) : sumT chS (chT 1 0 rs) ≤ 5400 := by
  rw [ch_sum]; have := sumR_le rs h.le; omega
theorem set_last {i : Int} {T : List Thg} : ∀ (b : Nat), setT chS (T ++ [nod 0 0]) b ((b + sumT chS T : Nat) : Int) 1 i = T ++ [nod 0 i] := by
  induction T with
  | nil => intro b; show (if (b : Int) = ((b + sumT chS [] : Nat) : Int) then _ else _) = _; rw [if_pos (by simp [sumT])]; rfl
  | cons t T ih =>
    intro b
    have hp := tsz_pos chS t
    rw [List.cons_append]
    unfold setT
    rw [sum_cons, if_neg (by omega), ← Nat.add_assoc, ih]; rfl
theorem ch_round {W w : World} {g : Nat} {rs : List Nat} (h : CH W w g rs) (hl : rs.length < 100) {X : Nat} (hX : X = 1 + sumR rs) {i : Nat} (hi : i = rs.length) :
    Calls Try.prog 12 #[.pointer (some ⟨g, 0, none⟩), .int .i64 0, .int .i64 0] w fun e w' => e = .returned (.int .i64 (X : Int)) ∧ AW W w' g 20000 chS (chT 1 0 rs ++ [nod 0 0]) 0 := by
  have hs := h.sum (by omega)
  refine (ch_makeN h.aw (by omega)).mono ?_
  rintro e w' ⟨rfl, h2⟩
  exact ⟨by rw [hX, ch_sum]; push_cast; rfl, h2⟩
theorem ch_round2 {W w : World} {g : Nat} {rs : List Nat} (h : AW W w g 20000 chS (chT 1 0 rs ++ [nod 0 0]) 0) {X : Nat} (hX : X = 1 + sumR rs) {i : Nat} (hi : i ≤ 1000) :
    Calls Try.prog 16 #[.pointer (some ⟨g, 0, none⟩), .int .i64 (X : Int), .int .i64 1, .int .i64 (i : Int)] w fun e w' => e = .returned (.tuple #[]) ∧ AW W w' g 20000 chS (chT 1 0 rs ++ [nod 0 i]) 0 := by
  have := set_aw h X 1 i ⟨by omega, by omega⟩
  rw [hX, ← ch_sum rs 1 0, set_last, ch_sum, ← hX] at this
  exact this
theorem ch_round3 {W w : World} {g : Nat} {rs : List Nat} (h : AW W w g 20000 chS (chT 1 0 rs ++ [nod 0 (rs.length : Int)]) 0) {X : Nat} (hX : X = 1 + sumR rs) (hXm : X ≤ 10000) {P : Nat} (hP : P = lastA 1 rs) :
    Calls Try.prog 16 #[.pointer (some ⟨g, 0, none⟩), .int .i64 (P : Int), .int .i64 0, .int .i64 (X : Int)] w fun e w' => e = .returned (.tuple #[]) ∧ AW W w' g 20000 chS (setT chS (chT 1 0 rs ++ [nod 0 (rs.length : Int)]) 1 (P : Int) 0 (X : Int)) 0 :=
  set_aw h P 0 X ⟨by omega, by omega⟩
theorem ch_round4 {W w : World} {g : Nat} {rs : List Nat} (hne : rs ≠ []) {X P : Nat} (h : AW W w g 20000 chS (setT chS (chT 1 0 rs ++ [nod 0 (rs.length : Int)]) 1 (P : Int) 0 (X : Int)) 0) (hle : ∀ r ∈ rs, r ≤ 49) (hl : rs.length < 100) (hX : X = 1 + sumR rs) (hP : P = lastA 1 rs) {r : Nat} (hr : r ≤ 49) :
    Calls Try.prog 12 #[.pointer (some ⟨g, 0, none⟩), .int .i64 1, .int .i64 (r : Int)] w fun e w' => (∃ v, e = .returned (.int .i64 v)) ∧ CH W w' g (rs ++ [r]) := by
  have hs := sumR_le rs hle
  refine (ch_makeA h (by rw [set_sum, sum_app, ch_sum]; have : sumT chS [nod 0 (rs.length : Int)] = 3 := rfl; omega) hr).mono ?_
  rintro e w' ⟨h1, h2⟩
  have h3 := ch_snoc r rs 1 0 (X : Int) hne (by rw [hX])
  rw [Nat.zero_add, ← hP] at h3
  rw [h3] at h2
  exact ⟨h1, h2, fun x hx => by rcases List.mem_append.1 hx with e | e; exact hle x e; simp at e; omega⟩
theorem ch_round0 {W w : World} {g : Nat} (h : AW W w g 20000 chS (chT 1 0 [] ++ [nod 0 0]) 0) {r : Nat} (hr : r ≤ 49) :
    Calls Try.prog 12 #[.pointer (some ⟨g, 0, none⟩), .int .i64 1, .int .i64 (r : Int)] w fun e w' => (∃ v, e = .returned (.int .i64 v)) ∧ CH W w' g [r] := by
  refine (ch_makeA h (by decide) hr).mono ?_
  rintro e w' ⟨h1, h2⟩
  exact ⟨h1, h2, fun x hx => by simp at hx; omega⟩
theorem ch_final {W w : World} {g : Nat} {rs : List Nat} (h : CH W w g rs) (hne : rs ≠ []) : Calls Try.prog 14 #[.pointer (some ⟨g, 0, none⟩), .slice (some ⟨w.heap.size, 0, none⟩) 1 1] (w.alloc (.cells #[.int .i64 1] 3)) fun e w' => ∃ ad c, e = .returned (.slice (some ad) 1 c) ∧ 1 ≤ c ∧ w'.cell? ad = some (.int .i64 1) ∧ Kd.C (Kd.int .i64) w' (some ad) 1 [1] ∧ AW W w' g 20000 chS (outL 1 0 rs.length) 1 := by
  refine (clear_lit h.aw (by decide) [1] (by decide) (fun r hr => by rw [List.mem_singleton.1 hr]; exact ⟨by decide, by decide⟩)).mono ?_
  rintro e w' ⟨S, v, rfl, h1, h2, h3⟩
  obtain ⟨e1, e2⟩ := ch_clear h1
  rw [e1] at h3
  rw [show [(1 : Int)].map (ref1 (newF chS S (chT 1 0 rs))) = [1] by rw [List.map_cons, e2 hne]; rfl] at h2
  obtain ⟨A, c, rfl, hc, hC⟩ := own_C (l := [1]) h2
  obtain ⟨ad, rfl, hcx⟩ := Kd.at_int hC 0 (by simp) (by simp)
  exact ⟨ad, c, rfl, hc, hcx, hC, h3⟩
theorem reached_aw {W w : World} {g most : Nat} {shs : List S65} {T : List Thg} {mv : Int} (h : AW W w g most shs T mv) {A : Option Addr} {c : Nat} {roots : List Int} (hr : Kd.C (Kd.int .i64) w A roots.length roots) (hc : roots.length ≤ c) (hin : ∀ r ∈ roots, inR r) :
    Calls Try.prog 17 #[.pointer (some ⟨g, 0, none⟩), .slice A roots.length c] w fun e w' => ∃ S, e = .returned (.int .i64 (sumT shs (keepT shs S T 1) : Nat)) ∧ (∀ x, S x = true ↔ Rch shs T roots x) ∧ Below w.heap.size w w' := by
  obtain ⟨⟨P, h1, _⟩, _⟩ := h
  exact reached_az h1 hr hc hin
theorem shape_aw {W w : World} {g most : Nat} {shs : List S65} {T : List Thg} {mv : Int} (h : AW W w g most shs T mv) (a : Int) : Calls Try.prog 21 #[.pointer (some ⟨g, 0, none⟩), .int .i64 a] w fun e w' => e = .returned (.int .i64 (shapeT (findT shs T 1 a))) ∧ Below w.heap.size w w' := by
  obtain ⟨⟨P, h1, _⟩, _⟩ := h
  exact shape_az h1 a
theorem ch_reach {W w : World} {g n : Nat} (h : AW W w g 20000 chS (outL 1 0 n) 1) {ad : Addr} {c : Nat} (hr : Kd.C (Kd.int .i64) w (some ad) 1 [1]) (hc : 1 ≤ c) : Calls Try.prog 17 #[.pointer (some ⟨g, 0, none⟩), .slice (some ad) 1 c] w fun e w' => e = .returned (.int .i64 (3 * (n : Int))) ∧ Below w.heap.size w w' := by
  refine (reached_aw h (roots := [1]) hr hc (fun r hr => by rw [List.mem_singleton.1 hr]; exact ⟨by decide, by decide⟩)).mono ?_
  rintro e w' ⟨S, rfl, h1, h2⟩
  rw [out_reached h1]
  exact ⟨by push_cast; rfl, h2⟩
theorem ch_free {W w : World} {g n : Nat} (h : AW W w g 20000 chS (outL 1 0 n) 1) : Calls Try.prog 13 #[.pointer (some ⟨g, 0, none⟩)] w fun e w' => e = .returned (.int .i64 (20000 - 3 * (n : Int))) ∧ Below w.heap.size w w' := by
  have := free_aw h
  rw [show freeF 20000 chS (outL 1 0 n) = 20000 - 3 * (n : Int) by unfold freeF; rw [out_sum]; omega] at this
  exact this
def atA (n j : Nat) : Nat := if j = n then 0 else 1 + 3 * j
structure CT (W w : World) (g n : Nat) (ad : Addr) : Prop where
  aw : AW W w g 20000 chS (outL 1 0 n) 1
  rc : Kd.C (Kd.int .i64) w (some ad) 1 [1]
theorem CT.below {W w w2 : World} {g n : Nat} {ad : Addr} (h : CT W w g n ad) (hb : Below w.heap.size w w2) : CT W w2 g n ad := ⟨h.aw.below hb, Kd.C_below h.rc hb⟩
theorem ct_get1 {W w : World} {g n : Nat} {ad : Addr} (h : CT W w g n ad) {j a : Nat} (hj : j < n) (ha : a = 1 + 3 * j) : Calls Try.prog 20 #[.pointer (some ⟨g, 0, none⟩), .int .i64 (a : Int), .int .i64 1] w fun e w' => e = .returned (.int .i64 (j : Int)) ∧ CT W w' g n ad := by
  refine (get_aw h.aw a 1).mono ?_
  rintro e w' ⟨rfl, hb⟩
  subst ha
  exact ⟨by rw [(out_get hj).1], h.below hb⟩
theorem ct_get0 {W w : World} {g n : Nat} {ad : Addr} (h : CT W w g n ad) {j a : Nat} (hj : j < n) (ha : a = 1 + 3 * j) : Calls Try.prog 20 #[.pointer (some ⟨g, 0, none⟩), .int .i64 (a : Int), .int .i64 0] w fun e w' => e = .returned (.int .i64 (atA n (j + 1) : Nat)) ∧ CT W w' g n ad := by
  refine (get_aw h.aw a 0).mono ?_
  rintro e w' ⟨rfl, hb⟩
  subst ha
  exact ⟨by rw [(out_get hj).2.1]; unfold atA; split <;> rfl, h.below hb⟩
theorem ct_shape {W w : World} {g n : Nat} {ad : Addr} (h : CT W w g n ad) {j a : Nat} (hj : j < n) (ha : a = 1 + 3 * j) : Calls Try.prog 21 #[.pointer (some ⟨g, 0, none⟩), .int .i64 (a : Int)] w fun e w' => e = .returned (.int .i64 0) ∧ CT W w' g n ad := by
  refine (shape_aw h.aw a).mono ?_
  rintro e w' ⟨rfl, hb⟩
  subst ha
  exact ⟨by rw [(out_get hj).2.2], h.below hb⟩
theorem ct_free {W w : World} {g n : Nat} {ad : Addr} (h : CT W w g n ad) : Calls Try.prog 13 #[.pointer (some ⟨g, 0, none⟩)] w fun e w' => e = .returned (.int .i64 (20000 - 3 * (n : Int))) ∧ CT W w' g n ad := by
  refine (ch_free h.aw).mono ?_
  rintro e w' ⟨rfl, hb⟩
  exact ⟨rfl, h.below hb⟩
theorem ct_reach {W w : World} {g n : Nat} {ad : Addr} (h : CT W w g n ad) {c : Nat} (hc : 1 ≤ c) : Calls Try.prog 17 #[.pointer (some ⟨g, 0, none⟩), .slice (some ad) 1 c] w fun e w' => e = .returned (.int .i64 (3 * (n : Int))) ∧ CT W w' g n ad := by
  refine (ch_reach h.aw h.rc hc).mono ?_
  rintro e w' ⟨rfl, hb⟩
  exact ⟨rfl, h.below hb⟩
def firstA (rs : List Nat) : Nat := if rs = [] then 0 else 1
theorem cell_zero {w : World} {ad : Addr} {v : Value} (h : w.cell? (ad.add 0) = some v) : w.cell? ad = some v := by
  have e : ad.add 0 = ad := by cases ad; rfl
  rwa [e] at h
set_option maxHeartbeats 16000000 in
set_option maxRecDepth 100000 in
theorem chains_x (a0 : Int) (A1 : Option Addr) (c1 : Nat) (l : List Int) (L : Nat) (hL : l.length = L) (W : World) (hr1 : Kd.C (Kd.int .i64) W A1 L l) (hc1 : L ≤ c1) (hm1 : L ≤ 9223372036854775807) :
    Calls Try.prog 5 #[.int .i64 a0, .slice A1 L c1] W fun e W' => e = .returned (.bool true) ∧ Below W.heap.size W W' := by
  have HN : Aside0 (∀ w, Below W.heap.size W w → Calls Try.prog 10 #[.int .i64 20000] w fun e w' => ∃ g, e = .returned (.tuple #[.pointer (some ⟨g, 0, none⟩), .int .i64 0]) ∧ AW W w' g 20000 [] [] 0) := ⟨fun w hb => new_aw hb 20000 (by decide) (by decide)⟩
  obtain ⟨r, hr, hr2⟩ := mod_pos a0 100 (by decide) (by decide)
  obtain ⟨n, hn⟩ : ∃ n : Nat, n = r + 1 := ⟨_, rfl⟩
  have hn1 : (r : Int) + 1 = (n : Int) := by omega
  have hn2 : n ≤ 100 ∧ 1 ≤ n := by omega
  have HRC := Aside0.mk hr1
  clear hn hr1
  by_cases h0 : L = 0
  · subst h0
    go_enter Try.func5, Try.ntmps5
    go_wp2_with (first | (go_at_call 9; (with_reducible refine (holds_calls _).mono ?_); rintro e w1 ⟨rfl, hb1⟩; have HB1 := Aside0.mk hb1; clear hb1))
    (try go_ret)
    exact ⟨rfl, HB1.out⟩
  · have h0b : ((L : Int) == 0) = false := by simp; omega
    by_cases h1 : 100 < L
    · have h1b : (100 : Int) < (L : Int) := by omega
      clear h0 h1
      go_enter Try.func5, Try.ntmps5
      go_wp2_with (first | (go_at_call 9; (with_reducible refine (holds_calls _).mono ?_); rintro e w1 ⟨rfl, hb1⟩; have HB1 := Aside0.mk hb1; clear hb1))
      (try go_ret)
      exact ⟨rfl, HB1.out⟩
    · have h1b : decide ((100 : Int) < (L : Int)) = false := by simp; omega
      have h0c : 0 < (L : Int) := by omega
      clear h0 h1
      go_enter Try.func5, Try.ntmps5
      go_wp2_with (first | (go_at_call 9; (with_reducible refine (holds_calls _).mono ?_); rintro e w1 ⟨rfl, hb1⟩; have HB1 := Aside0.mk hb1; clear hb1) | (go_at_call 10; (with_reducible refine (HN.out _ HB1.out).mono ?_); rintro e w2 ⟨g, rfl, ha2⟩; have HA2 := Aside0.mk ha2; clear ha2 HN HB1) | (go_at_call 15; (with_reducible refine (ch_object HA2.out).mono ?_); rintro e w3 ⟨rfl, ha3⟩; have HA3 := Aside0.mk ha3; clear ha3 HA2) | (go_at_call 11; (with_reducible refine (ch_array HA3.out).mono ?_); rintro e w4 ⟨rfl, ha4⟩; have HA4 : Aside0 (CH W w4 g []) := ⟨ha4, fun r hr => by cases hr⟩; clear ha4 HA3))
      clear hr hn1 hr2
      go_loopw [9, 10, 41] (fun v9 v10 v41 wr => ∃ rs : List Nat, rs.length ≤ n ∧ v41 = .int .i64 (rs.length : Nat) ∧ v9 = .int .i64 (firstA rs : Nat) ∧ v10 = .int .i64 (lastA 1 rs : Nat) ∧ Aside0 (CH W wr g rs)) (fun _ _ v41 _ => n - (intOf v41).toNat)
      case atStart => exact ⟨[], Nat.zero_le _, rfl, rfl, rfl, HA4⟩
      case round =>
        clear HA4
        obtain ⟨rs, hrl, rfl, rfl, rfl, HC⟩ := hrel
        obtain ⟨i, hi⟩ : ∃ i, i = rs.length := ⟨_, rfl⟩
        by_cases hin : i < n
        · have hin2 : (i : Int) < (n : Int) := by omega
          obtain ⟨X, hX⟩ : ∃ X, X = 1 + sumR rs := ⟨_, rfl⟩
          have HXE := Aside0.mk hX
          have hXm : X ≤ 5500 ∧ 1 ≤ X := by have := sumR_le rs HC.out.le; omega
          have hzm : (i : Int) % (L : Int) = ((i % L : Nat) : Int) := by push_cast; rfl
          have hzl : i % L < L := Nat.mod_lt _ (by omega)
          obtain ⟨z, hz⟩ : ∃ z, i % L = z := ⟨_, rfl⟩
          rw [hz] at hzm hzl
          have hzl2 : (z : Int) < (L : Int) := by omega
          obtain ⟨ad, rfl, hcx0⟩ := Kd.at_int HRC.out (z : Int) (by omega) hzl2
          obtain ⟨q, hq⟩ : ∃ q, q = rd l (z : Int) := ⟨_, rfl⟩
          rw [← hq, Int.toNat_natCast] at hcx0
          have HCX := Aside0.mk hcx0
          obtain ⟨u, hu, hu2⟩ := mod_pos q 50 (by decide) (by decide)
          have hu3 : u ≤ 49 := by omega
          have HI := Aside0.mk hi
          clear hq hz hcx0 hX hu2
          by_cases hne : rs = []
          · subst hne
            obtain rfl : i = 0 := hi
            obtain rfl : X = 1 := HXE.out
            have H12 : Aside0 (Calls Try.prog 12 #[.pointer (some ⟨g, 0, none⟩), .int .i64 0, .int .i64 0] wr fun e w' => e = .returned (.int .i64 1) ∧ AW W w' g 20000 chS (chT 1 0 [] ++ [nod 0 0]) 0) := ⟨ch_round HC.out (by decide) (X := 1) rfl (i := 0) rfl⟩
            have H16 : Aside0 (∀ w, AW W w g 20000 chS (chT 1 0 [] ++ [nod 0 0]) 0 → Calls Try.prog 16 #[.pointer (some ⟨g, 0, none⟩), .int .i64 1, .int .i64 1, .int .i64 0] w fun e w' => e = .returned (.tuple #[]) ∧ AW W w' g 20000 chS (chT 1 0 [] ++ [nod 0 0]) 0) := ⟨fun w h => ch_round2 h (X := 1) rfl (i := 0) (by decide)⟩
            obtain rfl : z = 0 := by
              have : ((0 : Nat) : Int) % (L : Int) = 0 := by simp
              omega
            have HCZ : Aside0 (∀ w2, Below W.heap.size W w2 → w2.cell? ad = some (.int .i64 q)) := ⟨fun w2 hb => cell_zero (bcell hb HCX.out)⟩
            clear hXm hzm hzl hzl2 HCX
            go_wp2_with (first | (go_at_call 12; (with_reducible refine (H12.out).mono ?_); rintro e w5 ⟨rfl, ha5⟩; have HA5 := Aside0.mk ha5; clear ha5 H12) | (go_at_call 16; (with_reducible refine (H16.out _ HA5.out).mono ?_); rintro e w6 ⟨rfl, ha6⟩; have HA6 := Aside0.mk ha6; have hcx := HCZ.out _ ha6.bel; have HM := Aside0.mk (ch_round0 ha6 hu3); clear ha6 HA5 H16) | (go_at_call 12; (with_reducible refine (HM.out).mono ?_); rintro e w7 ⟨⟨v7, rfl⟩, ha7⟩; have HA7 := Aside0.mk ha7; clear ha7 HM hcx))
            go_roundw
            case rel => exact ⟨[u], by show 1 ≤ n; omega, by go_num, rfl, rfl, HA7⟩
            case measure => (simp [intOf]; omega)
          · have hif : firstA rs = 1 := if_neg hne
            obtain ⟨P, hP⟩ : ∃ P, P = lastA 1 rs := ⟨_, rfl⟩
            have hP1 : 1 ≤ P := by rw [hP]; exact lastA_ge rs 1 hne
            have hP2 : P ≤ 10000 := by have h1 := lastA_lt rs 1 hne; have h2 := HXE.out; omega
            have H12 : Aside0 (Calls Try.prog 12 #[.pointer (some ⟨g, 0, none⟩), .int .i64 0, .int .i64 0] wr fun e w' => e = .returned (.int .i64 (X : Int)) ∧ AW W w' g 20000 chS (chT 1 0 rs ++ [nod 0 0]) 0) := ⟨ch_round HC.out (by omega) HXE.out HI.out⟩
            have H16 : Aside0 (∀ w, AW W w g 20000 chS (chT 1 0 rs ++ [nod 0 0]) 0 → Calls Try.prog 16 #[.pointer (some ⟨g, 0, none⟩), .int .i64 (X : Int), .int .i64 1, .int .i64 (i : Int)] w fun e w' => e = .returned (.tuple #[]) ∧ AW W w' g 20000 chS (chT 1 0 rs ++ [nod 0 (i : Int)]) 0) := ⟨fun w h => ch_round2 h HXE.out (by omega)⟩
            have H16b : Aside0 (∀ w, AW W w g 20000 chS (chT 1 0 rs ++ [nod 0 (i : Int)]) 0 → Calls Try.prog 16 #[.pointer (some ⟨g, 0, none⟩), .int .i64 (P : Int), .int .i64 0, .int .i64 (X : Int)] w fun e w' => e = .returned (.tuple #[]) ∧ AW W w' g 20000 chS (setT chS (chT 1 0 rs ++ [nod 0 (i : Int)]) 1 (P : Int) 0 (X : Int)) 0) := ⟨fun w h => by have hi := HI.out; subst hi; exact ch_round3 h HXE.out (by omega) hP⟩
            have H12b : Aside0 (∀ w, AW W w g 20000 chS (setT chS (chT 1 0 rs ++ [nod 0 (i : Int)]) 1 (P : Int) 0 (X : Int)) 0 → Calls Try.prog 12 #[.pointer (some ⟨g, 0, none⟩), .int .i64 1, .int .i64 (u : Int)] w fun e w' => (∃ v, e = .returned (.int .i64 v)) ∧ CH W w' g (rs ++ [u])) := ⟨fun w h => by have hi := HI.out; subst hi; exact ch_round4 hne h HC.out.le (by omega) HXE.out hP hu3⟩
            have HLS : Aside0 (lastA 1 (rs ++ [u]) = X ∧ (rs ++ [u]).length = i + 1 ∧ firstA (rs ++ [u]) = 1) := ⟨by rw [lastA_snoc, HXE.out], by rw [List.length_append, ← HI.out]; rfl, if_neg (by simp)⟩
            have hP3 : 0 < (P : Int) := by omega
            have HCZ : Aside0 (∀ w2, Below W.heap.size W w2 → w2.cell? (ad.add z) = some (.int .i64 q)) := ⟨fun w2 hb => bcell hb HCX.out⟩
            rw [hif, ← hi, ← hP]
            clear hne hif hP HCX HC hi
            go_wp2_with (first | (go_at_call 12; (with_reducible refine (H12.out).mono ?_); rintro e w5 ⟨rfl, ha5⟩; have HA5 := Aside0.mk ha5; clear ha5 H12) | (go_at_call 16; (with_reducible refine (H16.out _ HA5.out).mono ?_); rintro e w6 ⟨rfl, ha6⟩; have HA6 := Aside0.mk ha6; clear ha6 HA5 H16) | (go_at_call 16; (with_reducible refine (H16b.out _ HA6.out).mono ?_); rintro e w7 ⟨rfl, ha7⟩; have HA7 := Aside0.mk ha7; have hcx := HCZ.out _ ha7.bel; clear ha7 HA6 H16b) | (go_at_call 12; (with_reducible refine (H12b.out _ HA7.out).mono ?_); rintro e w8 ⟨⟨v8, rfl⟩, ha8⟩; have HA8 := Aside0.mk ha8; clear ha8 H12b HA7 hcx))
            go_roundw
            case rel => exact ⟨rs ++ [u], by rw [HLS.out.2.1]; omega, by rw [HLS.out.2.1]; go_num, by rw [HLS.out.2.2]; rfl, by rw [HLS.out.1], HA8⟩
            case measure => (simp [intOf]; omega)
        · obtain rfl : i = n := by omega
          have hne : rs ≠ [] := by intro e; subst e; simp at hi; omega
          have hif : firstA rs = 1 := if_neg hne
          have hii : ¬ (i : Int) < (i : Int) := by omega
          rw [hif, ← hi]
          have H14 : Aside0 (Calls Try.prog 14 #[.pointer (some ⟨g, 0, none⟩), .slice (some ⟨wr.heap.size, 0, none⟩) 1 1] (wr.alloc (.cells #[.int .i64 1] 3)) fun e w' => ∃ ad c, e = .returned (.slice (some ad) 1 c) ∧ 1 ≤ c ∧ w'.cell? ad = some (.int .i64 1) ∧ CT W w' g i ad) := ⟨(ch_final HC.out hne).mono (fun e w' ⟨ad, c, h1, h2, h3, h4, h5⟩ => ⟨ad, c, h1, h2, h3, by rw [hi]; exact h5, h4⟩)⟩
          clear hi hif hin hne HC
          go_wp2_with (first | (go_at_call 14; (with_reducible refine (H14.out).mono ?_); rintro e w9 ⟨ad, c9, rfl, hc9, hx9, hct⟩; have HCT := Aside0.mk hct; have HC9 := Aside0.mk hc9; clear hct hc9 H14))
          clear hx9
          go_loopw [14, 81] (fun v14 v81 wr => ∃ j : Nat, j ≤ i ∧ v81 = .int .i64 j ∧ v14 = .int .i64 (atA i j : Nat) ∧ Aside0 (CT W wr g i ad)) (fun _ v81 _ => i - (intOf v81).toNat)
          case atStart => exact ⟨0, Nat.zero_le _, rfl, by unfold atA; rw [if_neg (by omega)]; rfl, HCT⟩
          case round =>
            clear HCT
            obtain ⟨j, hj, rfl, rfl, HC⟩ := hrel
            by_cases hji : j < i
            · have hji2 : (j : Int) < (i : Int) := by omega
              obtain ⟨a, ha⟩ : ∃ a, a = 1 + 3 * j := ⟨_, rfl⟩
              have e1 : atA i j = a := by unfold atA; rw [if_neg (by omega), ha]
              rw [e1]
              have ha2 : 1 + 3 * (j : Int) = (a : Int) := by omega
              have ha3 : a ≤ 1000 := by omega
              have HG1 : Aside0 (∀ w, CT W w g i ad → Calls Try.prog 20 #[.pointer (some ⟨g, 0, none⟩), .int .i64 (a : Int), .int .i64 1] w fun e w' => e = .returned (.int .i64 (j : Int)) ∧ CT W w' g i ad) := ⟨fun w h => ct_get1 h hji ha⟩
              have HG0 : Aside0 (∀ w, CT W w g i ad → Calls Try.prog 20 #[.pointer (some ⟨g, 0, none⟩), .int .i64 (a : Int), .int .i64 0] w fun e w' => e = .returned (.int .i64 (atA i (j + 1) : Nat)) ∧ CT W w' g i ad) := ⟨fun w h => ct_get0 h hji ha⟩
              have HSH : Aside0 (∀ w, CT W w g i ad → Calls Try.prog 21 #[.pointer (some ⟨g, 0, none⟩), .int .i64 (a : Int)] w fun e w' => e = .returned (.int .i64 0) ∧ CT W w' g i ad) := ⟨fun w h => ct_shape h hji ha⟩
              clear ha e1
              obtain ⟨a2, hA2⟩ : ∃ a2, atA i (j + 1) = a2 := ⟨_, rfl⟩
              have HA2 := Aside0.mk hA2
              rw [hA2] at HG0
              clear hA2
              go_wp2_with (first | (go_at_call 20; (with_reducible refine (HG1.out _ HC.out).mono ?_); rintro e w5 ⟨rfl, hc5⟩; have HC5 := Aside0.mk hc5; clear hc5 HG1 HC) | ((try (refine gate_guard (by rfl) ?_; dsimp only)); go_at_call 21; (with_reducible refine (HSH.out _ HC5.out).mono ?_); rintro e w6 ⟨rfl, hc6⟩; have HC6 := Aside0.mk hc6; clear hc6 HSH HC5) | (go_at_call 20; (with_reducible refine (HG0.out _ HC6.out).mono ?_); rintro e w7 ⟨rfl, hc7⟩; have HC7 := Aside0.mk hc7; clear hc7 HG0 HC6))
              go_roundw
              case rel => exact ⟨j + 1, by omega, by go_num, by rw [HA2.out], HC7⟩
              case measure => (simp [intOf]; omega)
            · obtain rfl : j = i := by omega
              have hjj : ¬ (j : Int) < (j : Int) := by omega
              have e1 : atA j j = 0 := if_pos rfl
              rw [e1]
              have HFR := Aside0.mk (ct_free HC.out)
              have HRE : Aside0 (∀ w, CT W w g j ad → Calls Try.prog 17 #[.pointer (some ⟨g, 0, none⟩), .slice (some ad) 1 c9] w fun e w' => e = .returned (.int .i64 (3 * (j : Int))) ∧ CT W w' g j ad) := ⟨fun w h => ct_reach h HC9.out⟩
              clear e1
              go_wp2_with (first | ((try (refine gate_guard (by rfl) ?_; dsimp only)); go_at_call 13; (with_reducible refine (HFR.out).mono ?_); rintro e w5 ⟨rfl, hc5⟩; have HC5 := Aside0.mk hc5; clear hc5 HFR HC) | ((try (refine gate_guard (by rfl) ?_; dsimp only)); go_at_call 17; (with_reducible refine (HRE.out _ HC5.out).mono ?_); rintro e w6 ⟨rfl, hc6⟩; have HB := Aside0.mk hc6.aw.bel; clear hc6 HRE HC5))
              (try go_ret)
              exact ⟨rfl, HB.out⟩
theorem heapChains_walk (a0 : Int) (a1 : Option Addr) (len1 cap1 : Nat) (z1 : List Int) (W : World) (w0 : (Lit.int .i64 a0).wf = true)
    (w1 : (a1 = none ∧ len1 = 0 ∧ cap1 = 0 ∧ z1 = []) ∨ ∃ x, a1 = some x ∧ len1 ≤ cap1 ∧ cap1 ≤ maxLen ∧ z1.length = cap1 ∧ (∀ i, i < z1.length → W.cell? (x.add i) = some (.int .i64 (z1.getD i 0))) ∧ ∀ n ∈ z1, (Lit.int .i64 n).wf = true) (_y1 : len1 * 8 ≤ 140737488351232) :
    Calls Try.prog 5 #[.int .i64 a0, .slice a1 len1 cap1] W fun e W' => e = .returned (.bool true) ∧ Below W.heap.size W W' := by
  obtain ⟨l1, rfl, hr1, hm1, hw1, hc1⟩ := ReadsInt.ofRowC w1
  exact chains_x a0 a1 cap1 l1 l1.length rfl W (Kd.C_of_reads (d := (0 : Int)) (h1 := fun _ => rfl) hr1) hc1 (by unfold maxLen at hm1; omega)
end Go.Proofs.Ytibhjlmffgabgaa.PAll
