import Derived.Test.YtedmhopginmjaaaZG4
import Derived.Test.YtedmhopginmjaaaZG6
import Derived.Test.YtedmhopginmjaaaZRead
section
namespace Go.Proofs.Ytedmhopginmjaaa.PAll
open Go.RowKit Go.Proofs.YtedmhopginmjaaaW.PrintWords Go.Proofs.YtedmhopginmjaaaW.PrintLast Go.Proofs.YtedmhopginmjaaaW.PrintMore
open Go.Proofs.Ytedmhopginmjaaa.MapInt
set_option linter.unusedVariables false
set_option linter.unusedSimpArgs false
structure BDS (W0 w wx : World) (g : Nat) (full l : List Int) (bad : Bool) (v5 : Value) (xs : List S70) : Prop where
  bs : BS W0 wx g full l bad
  gr : w.grownBy wx (some g)
  row : Kd.R k70 70 wx w.heap.size (fun _ => True) v5 xs
  gl : g < w.heap.size
section
variable {W0 w wx w2 : World} {g : Nat} {full l l2 : List Int} {bad b2 : Bool} {v5 : Value} {xs : List S70}
theorem BDS.called (h : BDS W0 w wx g full l bad v5 xs) (hr : BS W0 w2 g full l2 b2) (hg : wx.grownBy w2 (some g)) : BDS W0 w w2 g full l2 b2 v5 xs :=
  ⟨hr, h.gr.trans hg, Kd.R_mono (Kd.R_grown (Kd.R_bound h.row) hg (fun k hk e => by injection e with e; have := hk.2.1; have := h.gl; omega)) (fun _ _ => trivial), h.gl⟩
theorem BDS.below (h : BDS W0 w wx g full l bad v5 xs) (hb : Below wx.heap.size wx w2) : BDS W0 w w2 g full l bad v5 xs :=
  ⟨h.bs.below hb, h.gr.trans (gr_below hb), Kd.R_below h.row hb, h.gl⟩
theorem BDS.size (h : BDS W0 w wx g full l bad v5 xs) : w.heap.size ≤ wx.heap.size := h.gr.size
theorem BDS.grown0 (h : BDS W0 w wx g full l bad v5 xs) (hg : wx.grownBy w2 none) : BDS W0 w w2 g full l bad v5 xs :=
  h.below ⟨hg.os, hg.tape, hg.output, hg.size, fun k hk => hg.block k hk (fun e => by cases e)⟩
theorem BDS.putC {gc n cap2 i : Nat} {ys : List S44} (h : BDS W0 w wx g full l bad v5 xs) (hc : Kd.R k44 44 wx w.heap.size (fun _ => True) (.slice (some ⟨gc, 0, none⟩) n cap2) ys) (hi : i < n) (hg : wx.grownBy w2 (some gc)) : BDS W0 w w2 g full l bad v5 xs := by
  have hn : n = ys.length := (Kd.R_reads' hc).1
  obtain ⟨g2, cap, e, h2, _, cells, h3⟩ := Kd.R_form hc (by omega)
  injection e with e _ _
  injection e with e
  injection e with e _ _
  subst e
  refine ⟨h.bs.kept hg (fun e => by injection e with e; have := h.gl; omega) (fun k hk => by cases hk; exact Nat.le_trans (Nat.le_trans h.bs.lg (Nat.le_of_lt h.gl)) h2), gr_new h.gr hg h2, Kd.R_mono (Kd.R_grown (Kd.R_bound h.row) hg (fun k hk e => ?_)) (fun _ _ => trivial), h.gl⟩
  obtain ⟨_, _, _, q, hq, cells2, hc2⟩ := hk
  injection e with e; subst e
  have hq2 : q ∈ [70] := hq
  have hq3 : q = 70 := by simpa using hq2
  subst hq3
  rw [h3] at hc2
  cases hc2
end
section
variable {ops : Array Oper} {rest : List Oper} {o : Oper} {a : Act} {Q : Exit → Act → World → Prop} {W : World} {base gb n cap o' : Nat}
end
end Go.Proofs.Ytedmhopginmjaaa.PAll
end
section
namespace Go.Proofs.Ytedmhopginmjaaa.PAll
open Go.RowKit Go.Proofs.YtedmhopginmjaaaW.PrintWords Go.Proofs.YtedmhopginmjaaaW.PrintLast Go.Proofs.YtedmhopginmjaaaW.PrintMore
open Go.Proofs.Ytedmhopginmjaaa.MapInt
set_option linter.unusedVariables false
set_option linter.unusedSimpArgs false
structure RES (W0 w wx : World) (g : Nat) (full l : List Int) (bad : Bool) (v5 : Value) (xs : List S70) (b8 : Nat) (E : S70) : Prop where
  bs : BS W0 wx g full l bad
  gr : w.grownBy wx (some g)
  row : Kd.R k70 70 wx w.heap.size (fun k => k < b8) v5 xs
  gl : g < w.heap.size
  k8 : Blk wx b8 70 (entC E)
  n8 : w.heap.size ≤ b8
section
variable {W0 w wx w2 : World} {g b8 : Nat} {full l l2 : List Int} {bad b2 : Bool} {v5 : Value} {xs : List S70} {E E2 : S70}
theorem BDS.res (h : BDS W0 w wx g full l bad v5 xs) (hb : Below wx.heap.size wx w2) (hk : Blk w2 wx.heap.size 70 (entC E)) : RES W0 w w2 g full l bad v5 xs wx.heap.size E :=
  ⟨h.bs.below hb, h.gr.trans (gr_below hb), Kd.R_mono (Kd.R_below (Kd.R_bound h.row) hb) (fun k hk => hk.2.2.1), h.gl, hk, h.gr.size⟩
theorem RES.called (h : RES W0 w wx g full l bad v5 xs b8 E) (hr : BS W0 w2 g full l2 b2) (hg : wx.grownBy w2 (some g)) : RES W0 w w2 g full l2 b2 v5 xs b8 E :=
  ⟨hr, h.gr.trans hg, Kd.R_mono (Kd.R_grown (Kd.R_bound h.row) hg (fun k hk e => by injection e with e; have := hk.2.1; have := h.gl; omega)) (fun _ hk => hk.1), h.gl, h.k8.kept hg (fun e => by injection e with e; have := h.gl; have := h.n8; omega), h.n8⟩
end
end Go.Proofs.Ytedmhopginmjaaa.PAll
end
