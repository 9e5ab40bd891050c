import Derived.Test.YtibhjlmffgabgaaZCallK
import Derived.Test.YtibhjlmffgabgaaZWalkFills
namespace Go.Proofs.Ytibhjlmffgabgaa.PAll
open Go.RowKit Go.Proofs.YtibhjlmffgabgaaW.PrintWords Go.Proofs.YtibhjlmffgabgaaW.PrintLast Go.Proofs.YtibhjlmffgabgaaW.PrintMore
open Go.Proofs.Ytibhjlmffgabgaa.MapInt
set_option linter.unusedVariables false
set_option linter.unusedSimpArgs false
open Classical in
noncomputable def rchB (shs : List S65) (T : List Thg) (roots : List Int) (x : Int) : Bool := decide (Rch shs T roots x)
theorem rchB_iff (shs : List S65) (T : List Thg) (roots : List Int) (x : Int) : rchB shs T roots x = true ↔ Rch shs T roots x := by unfold rchB; simp
theorem rchB_eq {shs : List S65} {T : List Thg} {roots : List Int} {S : Int → Bool} (h : ∀ x, S x = true ↔ Rch shs T roots x) : S = rchB shs T roots := funext fun x => by rw [Bool.eq_iff_iff, h x, rchB_iff]
structure Ar where
  shs : List S65
  T : List Thg
  mv : Int
noncomputable def reachN (a : Ar) (roots : List Int) : Nat := sumT a.shs (keepT a.shs (rchB a.shs a.T roots) a.T 1)
noncomputable def clrA (a : Ar) (roots : List Int) : Ar := ⟨a.shs, clrT a.shs (rchB a.shs a.T roots) a.T, a.mv + 1⟩
noncomputable def nowL (a : Ar) (roots : List Int) : List Int := roots.map (ref1 (newF a.shs (rchB a.shs a.T roots) a.T))
def AZa (w : World) (P : Nat → Prop) (g most : Nat) (a : Ar) : Prop := AZ w P g most a.shs a.T a.mv
def PZa (w : World) (P : Nat → Prop) (g most : Nat) (a : Ar) (w' : World) (P' : Nat → Prop) : Prop := PZ w P g most a.shs a.T a.mv w' P'
section
variable {w w2 : World} {P P' : Nat → Prop} {g most : Nat} {a : Ar}
theorem clear_a (h : AZa w P g most a) (hmv : 0 ≤ a.mv ∧ a.mv ≤ 1000000000) {A : Option Addr} {c : Nat} {roots : List Int} {ok : Nat → Prop} (hr : Kd.F (Kd.int .i64) w ok A roots.length roots) (hok : ∀ k, ok k → k < w.heap.size → ¬ P k) (hc : roots.length ≤ c) (hin : ∀ r ∈ roots, inR r) (hrl : roots.length ≤ 1000000) :
    Calls Try.prog 14 #[.pointer (some ⟨g, 0, none⟩), .slice A roots.length c] w fun e w' => ∃ v, e = .returned v ∧ w'.ownsRow w.heap.size 3 1 v roots.length (nums .i64 (nowL a roots)) ∧ PZa w P g most (clrA a roots) w' P := by
  refine (clear_az h hmv hr hok hc hin hrl).mono ?_
  rintro e w' ⟨S, v, rfl, h1, h2, h3⟩
  have := rchB_eq h1
  subst this
  exact ⟨v, rfl, h2, h3⟩
theorem reached_a (h : AZa w P g most a) {A : Option Addr} {c : Nat} {roots : List Int} (hr : Kd.C (Kd.int .i64) w A roots.length roots) (hc : roots.length ≤ c) (hin : ∀ r ∈ roots, inR r) :
    Calls Try.prog 17 #[.pointer (some ⟨g, 0, none⟩), .slice A roots.length c] w fun e w' => e = .returned (.int .i64 (reachN a roots : Nat)) ∧ Below w.heap.size w w' := by
  refine (reached_az h hr hc hin).mono ?_
  rintro e w' ⟨S, rfl, h1, h2⟩
  have := rchB_eq h1
  subst this
  exact ⟨rfl, h2⟩
end
structure CallR (w : World) (ok : Nat → Prop) (x : S35) (A1 : Option Addr) (c1 : Nat) (A6 : Option Addr) (c6 : Nat) : Prop where
  l1 : x.f1.length ≤ c1
  l6 : x.f6.length ≤ c6
  r1 : Kd.F (Kd.int .i64) w ok A1 x.f1.length x.f1
  r6 : Kd.F (Kd.int .i64) w ok A6 x.f6.length x.f6
  m1 : x.f1.length ≤ 50
  m6 : x.f6.length ≤ 100
  in5 : inR x.f5
  in6 : ∀ r ∈ x.f6, inR r
theorem CallR.chg {w w2 : World} {ok P : Nat → Prop} {x : S35} {A1 : Option Addr} {c1 : Nat} {A6 : Option Addr} {c6 : Nat} (h : CallR w ok x A1 c1 A6 c6) (hc : Chg P w w2) (hd : ∀ k, ok k → k < w.heap.size → ¬ P k) : CallR w2 ok x A1 c1 A6 c6 :=
  ⟨h.l1, h.l6, Kd.F_step h.r1 (fun k ho hl => hc.block k hl (hd k ho hl)), Kd.F_step h.r6 (fun k ho hl => hc.block k hl (hd k ho hl)), h.m1, h.m6, h.in5, h.in6⟩
end Go.Proofs.Ytibhjlmffgabgaa.PAll
