import Derived.Test.YtedmhopginmjaaaZG4
import Derived.Test.YtedmhopginmjaaaZG6
import Derived.Test.YtedmhopginmjaaaZRead
section
namespace Go.Proofs.Ytedmhopginmjaaa.PAll
open Go.RowKit Go.Proofs.YtedmhopginmjaaaW.PrintWords Go.Proofs.YtedmhopginmjaaaW.PrintLast Go.Proofs.YtedmhopginmjaaaW.PrintMore
open Go.Proofs.Ytedmhopginmjaaa.MapInt
set_option linter.unusedVariables false
set_option linter.unusedSimpArgs false
theorem infoEb : (Try.prog.info? 70).map (fun i => (i.zero, i.size, i.bytes)) = some (some (.agg (entC entZ)), 8, 88) := by kernel_rfl
theorem entM (w : World) (base : Nat) (ok : Nat → Prop) (x : S70) : k70.M w base ok x (entC x).toList := k70_mkM w base ok x
structure BDS (W0 w wx : World) (g : Nat) (full l : List Int) (bad : Bool) (v5 : Value) (xs : List S70) : Prop where
  bs : BS W0 wx g full l bad
  gr : w.grownBy wx (some g)
  row : Kd.R k70 70 wx w.heap.size (fun _ => True) v5 xs
  gl : g < w.heap.size
section
variable {W0 w wx w2 : World} {g : Nat} {full l l2 : List Int} {bad b2 : Bool} {v5 : Value} {xs : List S70}
theorem BDS.called (h : BDS W0 w wx g full l bad v5 xs) (hr : BS W0 w2 g full l2 b2) (hg : wx.grownBy w2 (some g)) : BDS W0 w w2 g full l2 b2 v5 xs :=
  ⟨hr, h.gr.trans hg, Kd.R_mono (Kd.R_grown (Kd.R_bound h.row) hg (fun k hk e => by injection e with e; have := hk.2.1; have := h.gl; omega)) (fun _ _ => trivial), h.gl⟩
theorem BDS.below (h : BDS W0 w wx g full l bad v5 xs) (hb : Below wx.heap.size wx w2) : BDS W0 w w2 g full l bad v5 xs :=
  ⟨h.bs.below hb, h.gr.trans (gr_below hb), Kd.R_below h.row hb, h.gl⟩
theorem BDS.size (h : BDS W0 w wx g full l bad v5 xs) : w.heap.size ≤ wx.heap.size := h.gr.size
theorem BDS.grown0 (h : BDS W0 w wx g full l bad v5 xs) (hg : wx.grownBy w2 none) : BDS W0 w w2 g full l bad v5 xs :=
  h.below ⟨hg.os, hg.tape, hg.output, hg.size, fun k hk => hg.block k hk (fun e => by cases e)⟩
theorem BDS.putC {gc n cap2 i : Nat} {ys : List S44} (h : BDS W0 w wx g full l bad v5 xs) (hc : Kd.R k44 44 wx w.heap.size (fun _ => True) (.slice (some ⟨gc, 0, none⟩) n cap2) ys) (hi : i < n) (hg : wx.grownBy w2 (some gc)) : BDS W0 w w2 g full l bad v5 xs := by
  have hn : n = ys.length := (Kd.R_reads' hc).1
  obtain ⟨g2, cap, e, h2, _, cells, h3⟩ := Kd.R_form hc (by omega)
  injection e with e _ _
  injection e with e
  injection e with e _ _
  subst e
  refine ⟨h.bs.kept hg (fun e => by injection e with e; have := h.gl; omega) (fun k hk => by cases hk; exact Nat.le_trans (Nat.le_trans h.bs.lg (Nat.le_of_lt h.gl)) h2), gr_new h.gr hg h2, Kd.R_mono (Kd.R_grown (Kd.R_bound h.row) hg (fun k hk e => ?_)) (fun _ _ => trivial), h.gl⟩
  obtain ⟨_, _, _, q, hq, cells2, hc2⟩ := hk
  injection e with e; subst e
  have hq2 : q ∈ [70] := hq
  have hq3 : q = 70 := by simpa using hq2
  subst hq3
  rw [h3] at hc2
  cases hc2
end
section
variable {ops : Array Oper} {rest : List Oper} {o : Oper} {a : Act} {Q : Exit → Act → World → Prop} {W : World} {base gb n cap o' : Nat}
theorem storeE (hN : o.dst = none) (hgd : o.guard = none) (p y : Operand) (hop : o.op = .store 70 p y) {xs : List S70} (i : Nat) (x : S70) (haddr : a.eval p = .pointer (some ⟨gb, o', none⟩)) (hoff : o' = i * 8) (hx : a.eval y = .agg (entC x))
    (HO : Kd.R k70 70 W base (fun _ => True) (.slice (some ⟨gb, 0, none⟩) n cap) xs) (hi : i < n)
    (hK : ∀ w1, Kd.R k70 70 w1 base (fun _ => True) (.slice (some ⟨gb, 0, none⟩) n cap) (xs.set i x) → W.grownBy w1 (some gb) → wpList Try.prog ops Q rest a w1) : wpList Try.prog ops Q (o :: rest) a W := by
  obtain ⟨c, hcl, hM, hcc, _⟩ := Kd.R_elem HO entZ (i : Int) (by omega) (by omega)
  obtain rfl := k70_openM hM
  refine Kd.R_store k70 (w0 := W) base hN hgd 70 p y hop 70 (i : Int) 0 xs x (.agg (entC x)) (entC x).toList _ (fun _ => True) (fun _ => False) haddr (by rw [Int.toNat_natCast, hoff]; rfl) hx rfl infoE (fun q hq => ?_) HO (by omega) (by omega) hcl hcc (by show 0 + 8 ≤ 8; omega) ?_ (fun _ h => h.elim) (Below.refl _ _) (fun w1 h1 _ h2 => hK w1 (by rw [Int.toNat_natCast] at h1; exact h1) h2)
  · simp [entC] at hq; rcases hq with rfl | rfl | rfl | rfl | rfl | rfl | rfl | rfl <;> rfl
  · exact entM _ _ _ _
end
theorem filled_at {w : World} {A : Option Addr} {c n : Nat} {L : List SR} {x : SR} {E : S70} (hE : E = entOf x) (hn : n = (L.map entOf).length) (hr : Kd.C k70 w A (L.map entOf).length (L.map entOf)) (hc : n ≤ c) (hk : kindIn x) (hs : ∀ y ∈ L, y.text.size ≤ 65535) :
    Calls Try.prog 25 #[.slice A n c, .agg (entC E)] w (FilRes w L x) := by
  subst hn; subst hE; exact filled_calls hr hc hk hs
end Go.Proofs.Ytedmhopginmjaaa.PAll
end
section
namespace Go.Proofs.Ytedmhopginmjaaa.PAll
open Go.RowKit Go.Proofs.YtedmhopginmjaaaW.PrintWords Go.Proofs.YtedmhopginmjaaaW.PrintLast Go.Proofs.YtedmhopginmjaaaW.PrintMore
open Go.Proofs.Ytedmhopginmjaaa.MapInt
set_option linter.unusedVariables false
set_option linter.unusedSimpArgs false
theorem bs_bad {W0 w : World} {g : Nat} {full l : List Int} {bad : Bool} (h : BS W0 w g full l bad) : w.cell? ⟨g, 2, none⟩ = some (.bool bad) := by
  obtain ⟨A, c, t, hB, _⟩ := h.box; exact hB.cell rfl
theorem bs_u8 {W0 w : World} {g : Nat} {full l : List Int} {bad : Bool} (h : BS W0 w g full l bad) : ∀ x ∈ l, 0 ≤ x ∧ x < 256 := by
  obtain ⟨A, c, t, _, _, _, _, hl⟩ := h.box
  intro x hx; rw [hl] at hx; exact h.u8 x (List.mem_of_mem_drop hx)
structure RES (W0 w wx : World) (g : Nat) (full l : List Int) (bad : Bool) (v5 : Value) (xs : List S70) (b8 : Nat) (E : S70) : Prop where
  bs : BS W0 wx g full l bad
  gr : w.grownBy wx (some g)
  row : Kd.R k70 70 wx w.heap.size (fun k => k < b8) v5 xs
  gl : g < w.heap.size
  k8 : Blk wx b8 70 (entC E)
  n8 : w.heap.size ≤ b8
section
variable {W0 w wx w2 : World} {g b8 : Nat} {full l l2 : List Int} {bad b2 : Bool} {v5 : Value} {xs : List S70} {E E2 : S70}
theorem BDS.res (h : BDS W0 w wx g full l bad v5 xs) (hb : Below wx.heap.size wx w2) (hk : Blk w2 wx.heap.size 70 (entC E)) : RES W0 w w2 g full l bad v5 xs wx.heap.size E :=
  ⟨h.bs.below hb, h.gr.trans (gr_below hb), Kd.R_mono (Kd.R_below (Kd.R_bound h.row) hb) (fun k hk => hk.2.2.1), h.gl, hk, h.gr.size⟩
theorem RES.bds (h : RES W0 w wx g full l bad v5 xs b8 E) : BDS W0 w wx g full l bad v5 xs := ⟨h.bs, h.gr, Kd.R_mono h.row (fun _ _ => trivial), h.gl⟩
theorem RES.called (h : RES W0 w wx g full l bad v5 xs b8 E) (hr : BS W0 w2 g full l2 b2) (hg : wx.grownBy w2 (some g)) : RES W0 w w2 g full l2 b2 v5 xs b8 E :=
  ⟨hr, h.gr.trans hg, Kd.R_mono (Kd.R_grown (Kd.R_bound h.row) hg (fun k hk e => by injection e with e; have := hk.2.1; have := h.gl; omega)) (fun _ hk => hk.1), h.gl, h.k8.kept hg (fun e => by injection e with e; have := h.gl; have := h.n8; omega), h.n8⟩
theorem RES.put8 (h : RES W0 w wx g full l bad v5 xs b8 E) (hb : Blk w2 b8 70 (entC E2)) (hg : wx.grownBy w2 (some b8)) : RES W0 w w2 g full l bad v5 xs b8 E2 :=
  ⟨h.bs.kept hg (fun e => by injection e with e; have := h.gl; have := h.n8; omega) (fun k hk => by cases hk; exact Nat.le_trans (Nat.le_trans h.bs.lg (Nat.le_of_lt h.gl)) h.n8), gr_new h.gr hg h.n8, Kd.R_grown h.row hg (fun k hk e => by injection e with e; omega), h.gl, hb, h.n8⟩
theorem RES.putrow {gb : Nat} {v : Value} {ys : List S70} (h : RES W0 w wx g full l bad v5 xs b8 E) (hr : Kd.R k70 70 w2 w.heap.size (fun _ => True) v ys) (hg : wx.grownBy w2 (some gb)) (hgb : w.heap.size ≤ gb) : BDS W0 w w2 g full l bad v ys :=
  ⟨h.bs.kept hg (fun e => by injection e with e; have := h.gl; omega) (fun k hk => by cases hk; exact Nat.le_trans (Nat.le_trans h.bs.lg (Nat.le_of_lt h.gl)) hgb), gr_new h.gr hg hgb, hr, h.gl⟩
end
theorem bnum_at {W0 w : World} {g : Nat} {full l : List Int} {bad : Bool} (n : Int) {v : Int} {l2 : List Int} {b2 : Bool} (h : BS W0 w g full l bad) (hv : numF l bad n = (v, l2, b2)) :
    Calls Try.prog 11 #[.pointer (some ⟨g, 0, none⟩), .int .i64 n] w fun e w' => e = .returned (.int .u64 v) ∧ BS W0 w' g full l2 b2 ∧ w.grownBy w' (some g) := bnum_calls n h hv
theorem filled_two {w : World} {A : Option Addr} {c n : Nat} {L : List SR} {x : SR} {E : S70} {cc : S44} {er : Int} (hE : E = entOf x) (hn : n = (L.map entOf).length) (hr : Kd.C k70 w A (L.map entOf).length (L.map entOf)) (hc : n ≤ c) (hk : kindIn x) (hs : ∀ y ∈ L, y.text.size ≤ 65535) (hm : madeF validS L x = (cc, er)) :
    Calls Try.prog 25 #[.slice A n c, .agg (entC E)] w fun e w' => ∃ c', e = .returned (.tuple #[.agg (conC c'), .int .i64 er]) ∧ (er = 0 → c' = cc) ∧ Below w.heap.size w w' := by
  refine (filled_at hE hn hr hc hk hs).mono ?_
  rintro e w' ⟨c', rfl, h1, h2⟩
  rw [hm] at h1 ⊢
  exact ⟨c', rfl, h1, h2⟩
theorem ent_cells {w : World} {gb cap n base : Nat} {ok : Nat → Prop} {L : List SR} {x : SR} (h : Kd.R k70 70 w base ok (.slice (some ⟨gb, 0, none⟩) n cap) (L.map entOf)) (i : Nat) (hi : i < L.length) (hx : rd62 L (i : Int) = x) :
    w.cell? ⟨gb, i * 8, none⟩ = some (.int .i64 (entOf x).f0.f0) ∧ w.cell? ⟨gb, i * 8 + 1, none⟩ = some (.int .i64 (entOf x).f0.f1) ∧ w.cell? ⟨gb, i * 8 + 2, none⟩ = some (.string (entOf x).f0.f2) ∧ w.cell? ⟨gb, i * 8 + 3, none⟩ = some (.string (entOf x).f0.f3) ∧ w.cell? ⟨gb, i * 8 + 4, none⟩ = some (.string (entOf x).f0.f4) ∧ w.cell? ⟨gb, i * 8 + 5, none⟩ = some (.int .i64 (entOf x).f1) ∧ w.cell? ⟨gb, i * 8 + 6, none⟩ = some (.int .i64 (entOf x).f2) ∧ w.cell? ⟨gb, i * 8 + 7, none⟩ = some (.int .i64 (entOf x).f3) := by
  obtain ⟨ad, e, h1⟩ := at_T70 (Kd.R_reads' h).2.2 (i : Int) (by omega) (by rw [List.length_map]; omega)
  injection e with e
  subst e
  rw [rd_entOf (by omega) (by omega), hx] at h1
  have ha : (Addr.add ⟨gb, 0, none⟩ ((i : Int).toNat * 8)) = ⟨gb, i * 8, none⟩ := by rw [Int.toNat_natCast]; unfold Addr.add; simp; omega
  obtain ⟨h2, h3⟩ := h1
  rw [ha] at h2
  refine ⟨h2, ?_⟩
  simpa only [ha] using h3
end Go.Proofs.Ytedmhopginmjaaa.PAll
end
