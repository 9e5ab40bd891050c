import Derived.Test.YtibhjlmffgabgaaZNil
namespace Go.Proofs.Ytibhjlmffgabgaa.PAll
open Go.RowKit Go.Proofs.YtibhjlmffgabgaaW.PrintWords Go.Proofs.YtibhjlmffgabgaaW.PrintLast Go.Proofs.YtibhjlmffgabgaaW.PrintMore
open Go.Proofs.Ytibhjlmffgabgaa.MapInt
set_option linter.unusedVariables false
set_option linter.unusedSimpArgs false
theorem AS.bound {w : World} {base g most : Nat} {P : Nat → Prop} {shs : List S65} {T : List Thg} {mv : Int} (h : AS w base P g most shs T mv) : AS w base (fun k => P k ∧ k < w.heap.size) g most shs T mv := by
  obtain ⟨h1, h2, h3, h4, h5, gw, gs, shV, w0, junk, hM⟩ := h
  exact ⟨h1, h2, h3, h4, h5, gw, gs, shV, w0, junk, hM.bound⟩
theorem AS.kept {w w2 : World} {base g most : Nat} {P : Nat → Prop} {shs : List S65} {T : List Thg} {mv : Int} (h : AS w base P g most shs T mv) (hk : ∀ k, k < w.heap.size → P k → w2.heap[k]? = w.heap[k]?) : AS w2 base P g most shs T mv := by
  obtain ⟨h1, h2, h3, h4, h5, gw, gs, shV, w0, junk, hM⟩ := h
  exact ⟨h1, h2, h3, h4, h5, gw, gs, shV, w0, junk, hM.kept hk⟩
structure AZ (w : World) (P : Nat → Prop) (g most : Nat) (shs : List S65) (T : List Thg) (mv : Int) : Prop where
  ex : ∃ base, base ≤ w.heap.size ∧ AS w base P g most shs T mv
  lt : ∀ k, P k → k < w.heap.size
structure PZ (w : World) (P : Nat → Prop) (g most : Nat) (shs : List S65) (T : List Thg) (mv : Int) (w' : World) (P' : Nat → Prop) : Prop where
  az : AZ w' P' g most shs T mv
  ch : Chg P w w'
  nx : ∀ k, P' k → P k ∨ w.heap.size ≤ k
section
variable {w w2 : World} {P P' : Nat → Prop} {g most : Nat} {shs : List S65} {T : List Thg} {mv : Int}
theorem AZ.below (h : AZ w P g most shs T mv) (hb : Below w.heap.size w w2) : AZ w2 P g most shs T mv := by
  obtain ⟨base, h1, h2⟩ := h.ex
  exact ⟨⟨base, Nat.le_trans h1 hb.size, h2.below hb⟩, fun k hk => Nat.lt_of_lt_of_le (h.lt k hk) hb.size⟩
theorem AZ.kept (h : AZ w P g most shs T mv) (hs : w.heap.size ≤ w2.heap.size) (hk : ∀ k, P k → w2.heap[k]? = w.heap[k]?) : AZ w2 P g most shs T mv := by
  obtain ⟨base, h1, h2⟩ := h.ex
  exact ⟨⟨base, Nat.le_trans h1 hs, h2.kept (fun k _ hp => hk k hp)⟩, fun k hk => Nat.lt_of_lt_of_le (h.lt k hk) hs⟩
theorem AZ.apart {Q : Nat → Prop} (h : AZ w P g most shs T mv) (hc : Chg Q w w2) (hd : ∀ k, P k → ¬ Q k) : AZ w2 P g most shs T mv := h.kept hc.size (fun k hk => hc.block k (h.lt k hk) (hd k hk))
theorem AZ.mk' {base : Nat} (hb : base ≤ w.heap.size) (h : AS w base P g most shs T mv) : AZ w (fun k => P k ∧ k < w.heap.size) g most shs T mv := ⟨⟨base, hb, h.bound⟩, fun k hk => hk.2⟩
theorem PZ.of {base : Nat} {Q : Nat → Prop} (hb : base ≤ w.heap.size) (h : AS w2 base Q g most shs T mv) (hc : Chg P w w2) (hq : ∀ k, Q k → P k ∨ w.heap.size ≤ k) : PZ w P g most shs T mv w2 (fun k => Q k ∧ k < w2.heap.size) :=
  ⟨AZ.mk' (Nat.le_trans hb hc.size) h, hc, fun k hk => hq k hk.1⟩
theorem new_az (w : World) (most : Nat) (h1 : 1 ≤ most) (h2 : most ≤ 65536) : Calls Try.prog 10 #[.int .i64 (most : Int)] w fun e w' => ∃ g P, e = .returned (.tuple #[.pointer (some ⟨g, 0, none⟩), .int .i64 0]) ∧ AZ w' P g most [] [] 0 ∧ Below w.heap.size w w' ∧ ∀ k, P k → w.heap.size ≤ k := by
  refine (new_calls (w := w) most h1 h2).mono ?_
  rintro e w' ⟨g, rfl, hA, hb⟩
  exact ⟨g, _, rfl, ⟨⟨_, hb.size, hA⟩, fun k hk => hk.2⟩, hb, fun k hk => hk.1⟩
theorem array_az (h : AZ w P g most shs T mv) (hl : shs.length ≤ 100000) (kind : Int) :
    Calls Try.prog 11 #[.pointer (some ⟨g, 0, none⟩), .int .i64 kind] w fun e w' => e = .returned (.int .i64 (shs.length : Int)) ∧ ∃ P', PZ w P g most (shs ++ [⟨[], true, kind == 3⟩]) T mv w' P' := by
  obtain ⟨base, hb, hA⟩ := h.ex
  refine (array_calls hA hb hl kind).mono ?_
  rintro e w' ⟨rfl, h1, h2⟩
  exact ⟨rfl, _, PZ.of hb h1 h2 (fun k hk => hk)⟩
theorem object_az (h : AZ w P g most shs T mv) (hl : shs.length ≤ 100000) {A : Option Addr} {c : Nat} {ks : List Int} (hr : Kd.C (Kd.int .i64) w A ks.length ks) (hc : ks.length ≤ c) (hk : ks.length ≤ 1000) :
    Calls Try.prog 15 #[.pointer (some ⟨g, 0, none⟩), .slice A ks.length c] w fun e w' => e = .returned (.int .i64 (shs.length : Int)) ∧ ∃ P', PZ w P g most (shs ++ [⟨ks.map (· == 3), false, false⟩]) T mv w' P' := by
  obtain ⟨base, hb, hA⟩ := h.ex
  refine (object_calls hA hb hl hr hc hk).mono ?_
  rintro e w' ⟨rfl, h1, h2⟩
  exact ⟨rfl, _, PZ.of hb h1 h2 (fun k hk => hk)⟩
theorem PZ.same {base : Nat} {shs2 : List S65} {T2 : List Thg} {mv2 : Int} (h0 : AZ w P g most shs T mv) (hb : base ≤ w.heap.size) (h : AS w2 base P g most shs2 T2 mv2) (hc : Chg P w w2) : PZ w P g most shs2 T2 mv2 w2 P :=
  ⟨⟨⟨base, Nat.le_trans hb hc.size, h⟩, fun k hk => Nat.lt_of_lt_of_le (h0.lt k hk) hc.size⟩, hc, fun k hk => .inl hk⟩
theorem make_az (h : AZ w P g most shs T mv) (s n : Int) :
    Calls Try.prog 12 #[.pointer (some ⟨g, 0, none⟩), .int .i64 s, .int .i64 n] w fun e w' => e = .returned (.int .i64 (makeF most shs T s n).2) ∧ PZ w P g most shs (makeF most shs T s n).1 mv w' P := by
  obtain ⟨base, hb, hA⟩ := h.ex
  refine (make_calls hA s n).mono ?_
  rintro e w' ⟨rfl, h1, h2⟩
  exact ⟨rfl, PZ.same h hb h1 h2⟩
theorem set_az (h : AZ w P g most shs T mv) (a i x : Int) (hx : inR x) :
    Calls Try.prog 16 #[.pointer (some ⟨g, 0, none⟩), .int .i64 a, .int .i64 i, .int .i64 x] w fun e w' => e = .returned (.tuple #[]) ∧ PZ w P g most shs (setT shs T 1 a i x) mv w' P := by
  obtain ⟨base, hb, hA⟩ := h.ex
  refine (set_calls hA a i x hx).mono ?_
  rintro e w' ⟨rfl, h1, h2⟩
  exact ⟨rfl, PZ.same h hb h1 h2⟩
theorem clear_az (h : AZ w P g most shs T mv) (hmv : 0 ≤ mv ∧ mv ≤ 1000000000) {A : Option Addr} {c : Nat} {roots : List Int} {ok : Nat → Prop} (hr : Kd.F (Kd.int .i64) w ok A roots.length roots) (hok : ∀ k, ok k → k < w.heap.size → ¬ P k) (hc : roots.length ≤ c) (hin : ∀ r ∈ roots, inR r) (hrl : roots.length ≤ 1000000) :
    Calls Try.prog 14 #[.pointer (some ⟨g, 0, none⟩), .slice A roots.length c] w fun e w' => ∃ S v, e = .returned v ∧ (∀ x, S x = true ↔ Rch shs T roots x) ∧ w'.ownsRow w.heap.size 3 1 v roots.length (nums .i64 (roots.map (ref1 (newF shs S T)))) ∧ PZ w P g most shs (clrT shs S T) (mv + 1) w' P := by
  obtain ⟨base, hb, hA⟩ := h.ex
  refine (clear_calls hA hmv (fun w' hc' => Kd.F_now (Kd.F_step hr (fun k ho hl => hc'.block k hl (hok k ho hl)))) hc hin hrl).mono ?_
  rintro e w' ⟨S, v, rfl, h1, h2, h3, h4⟩
  exact ⟨S, v, rfl, h1, h2, PZ.same h hb h3 h4⟩
theorem reached_az (h : AZ w P g most shs T mv) {A : Option Addr} {c : Nat} {roots : List Int} (hr : Kd.C (Kd.int .i64) w A roots.length roots) (hc : roots.length ≤ c) (hin : ∀ r ∈ roots, inR r) :
    Calls Try.prog 17 #[.pointer (some ⟨g, 0, none⟩), .slice A roots.length c] w fun e w' => ∃ S, e = .returned (.int .i64 (sumT shs (keepT shs S T 1) : Nat)) ∧ (∀ x, S x = true ↔ Rch shs T roots x) ∧ Below w.heap.size w w' := by
  obtain ⟨base, hb, hA⟩ := h.ex
  exact reached_calls hA hr hc hin
theorem get_az (h : AZ w P g most shs T mv) (a i : Int) :
    Calls Try.prog 20 #[.pointer (some ⟨g, 0, none⟩), .int .i64 a, .int .i64 i] w fun e w' => e = .returned (.int .i64 (getF shs T a i)) ∧ Below w.heap.size w w' := by
  obtain ⟨base, hb, hA⟩ := h.ex
  exact get_calls hA a i
theorem shape_az (h : AZ w P g most shs T mv) (a : Int) :
    Calls Try.prog 21 #[.pointer (some ⟨g, 0, none⟩), .int .i64 a] w fun e w' => e = .returned (.int .i64 (shapeT (findT shs T 1 a))) ∧ Below w.heap.size w w' := by
  obtain ⟨base, hb, hA⟩ := h.ex
  exact shape_calls hA a
theorem len_az (h : AZ w P g most shs T mv) (a : Int) :
    Calls Try.prog 35 #[.pointer (some ⟨g, 0, none⟩), .int .i64 a] w fun e w' => e = .returned (.int .i64 (lenT (findT shs T 1 a))) ∧ Below w.heap.size w w' := by
  obtain ⟨base, hb, hA⟩ := h.ex
  exact len_calls hA a
theorem size_az (h : AZ w P g most shs T mv) (s n : Int) :
    Calls Try.prog 25 #[.pointer (some ⟨g, 0, none⟩), .int .i64 s, .int .i64 n] w fun e w' => e = .returned (.int .i64 (sizeF shs s n)) ∧ Below w.heap.size w w' := by
  obtain ⟨base, hb, hA⟩ := h.ex
  exact size_calls hA s n
theorem free_az (h : AZ w P g most shs T mv) :
    Calls Try.prog 13 #[.pointer (some ⟨g, 0, none⟩)] w fun e w' => e = .returned (.int .i64 (freeF most shs T)) ∧ Below w.heap.size w w' := by
  obtain ⟨base, hb, hA⟩ := h.ex
  exact free_calls hA
theorem moved_az (h : AZ w P g most shs T mv) :
    Calls Try.prog 32 #[.pointer (some ⟨g, 0, none⟩)] w fun e w' => e = .returned (.int .i64 mv) ∧ Below w.heap.size w w' := by
  obtain ⟨base, hb, hA⟩ := h.ex
  exact moved_calls hA
end
structure AW (W w : World) (g most : Nat) (shs : List S65) (T : List Thg) (mv : Int) : Prop where
  ex : ∃ P, AZ w P g most shs T mv ∧ ∀ k, P k → W.heap.size ≤ k
  bel : Below W.heap.size W w
section
variable {W w w2 : World} {g most : Nat} {shs : List S65} {T : List Thg} {mv : Int}
theorem AW.below (h : AW W w g most shs T mv) (hb : Below w.heap.size w w2) : AW W w2 g most shs T mv := by
  obtain ⟨⟨P, h1, h2⟩, h3⟩ := h
  exact ⟨⟨P, h1.below hb, h2⟩, below_step h3 hb⟩
theorem AW.of {shs2 : List S65} {T2 : List Thg} {mv2 : Int} {P P' : Nat → Prop} (hb : Below W.heap.size W w) (hP : ∀ k, P k → W.heap.size ≤ k) (h : PZ w P g most shs2 T2 mv2 w2 P') : AW W w2 g most shs2 T2 mv2 :=
  ⟨⟨P', h.az, fun k hk => (h.nx k hk).elim (hP k) (fun h2 => Nat.le_trans hb.size h2)⟩, hb.trans (h.ch.below (fun k hk hp => by have := hP k hp; omega) hb.size)⟩
theorem new_aw (hb : Below W.heap.size W w) (most : Nat) (h1 : 1 ≤ most) (h2 : most ≤ 65536) : Calls Try.prog 10 #[.int .i64 (most : Int)] w fun e w' => ∃ g, e = .returned (.tuple #[.pointer (some ⟨g, 0, none⟩), .int .i64 0]) ∧ AW W w' g most [] [] 0 := by
  refine (new_az w most h1 h2).mono ?_
  rintro e w' ⟨g, P, rfl, hA, hb2, hP⟩
  exact ⟨g, rfl, ⟨P, hA, fun k hk => Nat.le_trans hb.size (hP k hk)⟩, below_step hb hb2⟩
theorem object_aw (h : AW W w g most shs T mv) (hl : shs.length ≤ 100000) {A : Option Addr} {c : Nat} {ks : List Int} (hr : Kd.C (Kd.int .i64) w A ks.length ks) (hc : ks.length ≤ c) (hk : ks.length ≤ 1000) :
    Calls Try.prog 15 #[.pointer (some ⟨g, 0, none⟩), .slice A ks.length c] w fun e w' => e = .returned (.int .i64 (shs.length : Int)) ∧ AW W w' g most (shs ++ [⟨ks.map (· == 3), false, false⟩]) T mv := by
  obtain ⟨⟨P, h1, h2⟩, h3⟩ := h
  refine (object_az h1 hl hr hc hk).mono ?_
  rintro e w' ⟨rfl, P', h4⟩
  exact ⟨rfl, AW.of h3 h2 h4⟩
theorem make_aw (h : AW W w g most shs T mv) (s n : Int) :
    Calls Try.prog 12 #[.pointer (some ⟨g, 0, none⟩), .int .i64 s, .int .i64 n] w fun e w' => e = .returned (.int .i64 (makeF most shs T s n).2) ∧ AW W w' g most shs (makeF most shs T s n).1 mv := by
  obtain ⟨⟨P, h1, h2⟩, h3⟩ := h
  refine (make_az h1 s n).mono ?_
  rintro e w' ⟨rfl, h4⟩
  exact ⟨rfl, AW.of h3 h2 h4⟩
theorem set_aw (h : AW W w g most shs T mv) (a i x : Int) (hx : inR x) :
    Calls Try.prog 16 #[.pointer (some ⟨g, 0, none⟩), .int .i64 a, .int .i64 i, .int .i64 x] w fun e w' => e = .returned (.tuple #[]) ∧ AW W w' g most shs (setT shs T 1 a i x) mv := by
  obtain ⟨⟨P, h1, h2⟩, h3⟩ := h
  refine (set_az h1 a i x hx).mono ?_
  rintro e w' ⟨rfl, h4⟩
  exact ⟨rfl, AW.of h3 h2 h4⟩
theorem lit_C (w : World) (l : List Int) (hl : l.length ≤ 1000) : Kd.C (Kd.int .i64) (w.alloc (.cells (nums .i64 l).toArray 3)) (some ⟨w.heap.size, 0, none⟩) l.length l :=
  (Kd.R_reads' (Kd.R_of_own (enc := Value.int .i64) (h1 := fun _ => rfl) (ok := fun _ => True) (own_lit w w.heap.size 3 .i64 l (Nat.le_refl _) (by omega)) (fun _ _ => trivial))).2.2
theorem lit_F (w : World) (l : List Int) (hl : l.length ≤ 1000) : Kd.F (Kd.int .i64) (w.alloc (.cells (nums .i64 l).toArray 3)) (fun k => k = w.heap.size) (some ⟨w.heap.size, 0, none⟩) l.length l := by
  exact Kd.R_F (Kd.R_of_own (enc := Value.int .i64) (h1 := fun _ => rfl) (ok := fun k => k = w.heap.size) (own_lit w w.heap.size 3 .i64 l (Nat.le_refl _) (by omega)) (fun k hk => by injection hk with hk; exact hk.symm))
theorem clear_lit (h : AW W w g most shs T mv) (hmv : 0 ≤ mv ∧ mv ≤ 1000000000) (roots : List Int) (hl : roots.length ≤ 1000) (hin : ∀ r ∈ roots, inR r) :
    Calls Try.prog 14 #[.pointer (some ⟨g, 0, none⟩), .slice (some ⟨w.heap.size, 0, none⟩) roots.length roots.length] (w.alloc (.cells (nums .i64 roots).toArray 3)) fun e w' => ∃ S v, e = .returned v ∧ (∀ x, S x = true ↔ Rch shs T roots x) ∧ w'.ownsRow W.heap.size 3 1 v roots.length (nums .i64 (roots.map (ref1 (newF shs S T)))) ∧ AW W w' g most shs (clrT shs S T) (mv + 1) := by
  have hw : Below w.heap.size w (w.alloc (.cells (nums .i64 roots).toArray 3)) := below_alloc (Below.refl _ _) _
  obtain ⟨⟨P, h1, h2⟩, h3⟩ := h
  refine (clear_az (h1.below hw) hmv (lit_F w roots hl) (fun k hk _ hp => by have := h1.lt k hp; omega) (Nat.le_refl _) hin (by omega)).mono ?_
  rintro e w' ⟨S, v, rfl, h5, h6, h4⟩
  exact ⟨S, v, rfl, h5, own_lower h6 (Nat.le_trans h3.size hw.size), AW.of (below_step h3 hw) h2 h4⟩
end
end Go.Proofs.Ytibhjlmffgabgaa.PAll
