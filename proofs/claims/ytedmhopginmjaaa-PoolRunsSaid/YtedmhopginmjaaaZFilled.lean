import Derived.Test.YtedmhopginmjaaaZG5
import Derived.Test.YtedmhopginmjaaaZPAllx7
import Derived.Deep.RegionWith
namespace Go.Proofs.Ytedmhopginmjaaa.PAll
open Go.RowKit Go.Proofs.YtedmhopginmjaaaW.PrintWords Go.Proofs.YtedmhopginmjaaaW.PrintLast Go.Proofs.YtedmhopginmjaaaW.PrintMore
open Go.Proofs.Ytedmhopginmjaaa.MapInt
set_option linter.unusedVariables false
set_option linter.unusedSimpArgs false
def entC (x : S70) : Array Value := #[.int .i64 x.f0.f0, .int .i64 x.f0.f1, .string x.f0.f2, .string x.f0.f3, .string x.f0.f4, .int .i64 x.f1, .int .i64 x.f2, .int .i64 x.f3]
theorem entC_one (x : S70) : (entC x).all (·.oneCell') = true := by simp [entC, Value.oneCell']
theorem infoE : (Try.prog.info? 70).map (·.size) = some 8 := by kernel_rfl
def entZ : S70 := ⟨conZ 0, 0, 0, 0⟩
def ofF (l : List S70) (i k : Int) : S70 × Bool := if i < 1 ∨ (l.length : Int) ≤ i ∨ (rd_T70 l i).f0.f0 ≠ k then (entZ, false) else (rd_T70 l i, true)
theorem drawn0_bel {w w' : World} (h : Drawn0 w w') : Below w.heap.size w w' := by
  obtain ⟨n, rfl⟩ := h; exact pw_below_drewN (Below.refl _ _) n
theorem of_at {w : World} {A : Option Addr} {c : Nat} {l : List S70} (hr : Kd.C k70 w A l.length l) (hc : l.length ≤ c) (i k : Int) {y : S70} {ok : Bool} (hv : ofF l i k = (y, ok)) :
    Calls Try.prog 31 #[.slice A l.length c, .int .i64 i, .int .i64 k] w fun e w' => e = .returned (.tuple #[.agg (entC y), .bool ok]) ∧ Below w.heap.size w w' := by
  have h : regletref03_of.f l i k = some (y.f0.f0, y.f0.f1, y.f0.f2, y.f0.f3, y.f0.f4, y.f1, y.f2, y.f3, ok) := by
    unfold ofF at hv
    unfold regletref03_of.f
    by_cases h1 : i < 1
    · rw [if_pos (.inl h1)] at hv; injection hv with a b; subst a; subst b; rw [if_pos h1]; rfl
    · rw [if_neg h1]
      by_cases h2 : (l.length : Int) ≤ i
      · rw [if_pos (.inr (.inl h2))] at hv; injection hv with a b; subst a; subst b; rw [if_pos h2]; rfl
      · rw [if_neg h2, if_pos (by omega), if_pos (by omega)]
        by_cases h3 : (rd_T70 l i).f0.f0 = k
        · rw [if_neg (by omega)] at hv; injection hv with a b; subst a; subst b; rw [if_pos h3]
        · rw [if_pos (.inr (.inr h3))] at hv; injection hv with a b; subst a; subst b; rw [if_neg h3]; rfl
  exact (regletref03_of.calls _ _ _ _ _ _ _ _ _ _ _ _ _ _ _ hr hc h).mono fun e w' h => h
structure FS (w wx : World) (b3 b4 b6 : Nat) (x : S70) (c4 : Array Value) (c6 : S44) : Prop where
  bel : Below w.heap.size w wx
  k3 : Blk wx b3 70 (entC x)
  k4 : Blk wx b4 44 c4
  k6 : Blk wx b6 44 (conC c6)
  n4 : w.heap.size ≤ b4
  n6 : w.heap.size ≤ b6
  ne : b4 ≠ b6
section
variable {w wx w2 : World} {b3 b4 b6 : Nat} {c4 c5 : Array Value} {x : S70} {c6 d6 : S44}
theorem FS.below (h : FS w wx b3 b4 b6 x c4 c6) (hb : Below wx.heap.size wx w2) : FS w w2 b3 b4 b6 x c4 c6 :=
  ⟨below_step h.bel hb, h.k3.below hb, h.k4.below hb, h.k6.below hb, h.n4, h.n6, h.ne⟩
theorem FS.put6 (h : FS w wx b3 b4 b6 x c4 c6) (hb : Blk w2 b6 44 (conC d6)) (hg : wx.grownBy w2 (some b6)) : FS w w2 b3 b4 b6 x c4 d6 :=
  ⟨h.bel.grown hg h.bel.size (fun k hk => by cases hk; exact h.n6), h.k3.kept hg (fun e => by injection e with e; exact h.k3.ne_type h.k6 (by decide) e), h.k4.kept hg (fun e => h.ne (by injection e)), hb, h.n4, h.n6, h.ne⟩
theorem FS.put4 (h : FS w wx b3 b4 b6 x c4 c6) (hb : Blk w2 b4 44 c5) (hg : wx.grownBy w2 (some b4)) : FS w w2 b3 b4 b6 x c5 c6 :=
  ⟨h.bel.grown hg h.bel.size (fun k hk => by cases hk; exact h.n4), h.k3.kept hg (fun e => by injection e with e; exact h.k3.ne_type h.k4 (by decide) e), hb, h.k6.kept hg (fun e => h.ne (by injection e with e; exact e.symm)), h.n4, h.n6, h.ne⟩
end
end Go.Proofs.Ytedmhopginmjaaa.PAll
