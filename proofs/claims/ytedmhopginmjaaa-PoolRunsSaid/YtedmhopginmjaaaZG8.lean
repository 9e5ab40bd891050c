import Derived.Test.YtedmhopginmjaaaZHolds
import Derived.Test.YtedmhopginmjaaaZG6
section
namespace Go.Proofs.Ytedmhopginmjaaa.PAll
open Go.RowKit Go.Proofs.YtedmhopginmjaaaW.PrintWords Go.Proofs.YtedmhopginmjaaaW.PrintLast Go.Proofs.YtedmhopginmjaaaW.PrintMore
open Go.Proofs.Ytedmhopginmjaaa.MapInt
set_option linter.unusedVariables false
set_option linter.unusedSimpArgs false
end Go.Proofs.Ytedmhopginmjaaa.PAll
end
section
namespace Go.Proofs.Ytedmhopginmjaaa.PAll
open Go.RowKit Go.Proofs.YtedmhopginmjaaaW.PrintWords Go.Proofs.YtedmhopginmjaaaW.PrintLast Go.Proofs.YtedmhopginmjaaaW.PrintMore
open Go.Proofs.Ytedmhopginmjaaa.MapInt
set_option linter.unusedVariables false
set_option linter.unusedSimpArgs false
theorem drop_len {l b : List Int} {t : Nat} (h : l = b.drop t) (ht : t ≤ b.length) : (l.length : Int) = (b.length : Int) - (t : Int) := by
  have h9 : l.length = b.length - t := by rw [h]; exact List.length_drop
  omega
structure TS (W0 w : World) (g gB : Nat) (full l : List Int) (bad : Bool) : Prop where
  rs : RS W0 w g l bad
  bs : BS W0 w gB full l bad
  ne : g ≠ gB
section
variable {W0 w w2 w3 : World} {g gB : Nat} {full l l2 : List Int} {bad b2 : Bool}
theorem TS.below (h : TS W0 w g gB full l bad) (hb : Below w.heap.size w w2) : TS W0 w2 g gB full l bad := ⟨h.rs.below hb, h.bs.below hb, h.ne⟩
theorem TS.bkept (h : TS W0 w g gB full l bad) (hg : w.grownBy w2 (some g)) : BS W0 w2 gB full l bad := h.bs.kept hg (fun e => h.ne (by injection e with e; exact e.symm)) (fun k hk => by cases hk; exact h.rs.lg)
theorem TS.two (h : TS W0 w g gB full l bad) (hr : RS W0 w2 g l2 b2) (hb : BS W0 w3 gB full l2 b2) (hg : w2.grownBy w3 (some gB)) : TS W0 w3 g gB full l2 b2 :=
  ⟨hr.kept hg (fun e => h.ne (by injection e)) (fun k hk => by cases hk; exact h.bs.lg), hb, h.ne⟩
end
theorem from_both {w : World} {A : Option Addr} {c : Nat} {l : List Int} (hr : Kd.C (Kd.int .u8) w A l.length l) (hc : l.length ≤ c) {w2 : World} {g : Nat} (h : RS w w2 g l false) : TS w (w2.alloc (.cells #[.slice A l.length c, .int .i64 0, .bool false] 29)) g w2.heap.size l l false := by
  have hlt : g < w2.heap.size := by obtain ⟨A', c', hB, _, _⟩ := h.box; exact hB.lt
  refine ⟨h.below ((Below.refl _ _).alloc (Nat.le_refl _) _), ⟨(h.bel.alloc h.bel.size _), h.bel.size, h.u8, A, c, 0, Blk.made _ _ _, hc, hr, Nat.zero_le _, rfl⟩, by omega⟩
theorem wf_u8 {x : Int} (h : (Lit.int .u8 x).wf = true) : 0 ≤ x ∧ x < 256 := by
  simp only [Lit.wf, IntKind.min, IntKind.max, IntKind.signed, IntKind.bits, Bool.and_eq_true, decide_eq_true_eq] at h
  simp at h
  omega
end Go.Proofs.Ytedmhopginmjaaa.PAll
end
