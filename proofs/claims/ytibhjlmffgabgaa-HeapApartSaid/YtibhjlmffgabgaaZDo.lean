import Derived.Test.YtibhjlmffgabgaaZCallK
import Derived.Test.YtibhjlmffgabgaaZWalkFills
namespace Go.Proofs.Ytibhjlmffgabgaa.PAll
open Go.RowKit Go.Proofs.YtibhjlmffgabgaaW.PrintWords Go.Proofs.YtibhjlmffgabgaaW.PrintLast Go.Proofs.YtibhjlmffgabgaaW.PrintMore
open Go.Proofs.Ytibhjlmffgabgaa.MapInt
set_option linter.unusedVariables false
set_option linter.unusedSimpArgs false
open Classical in
noncomputable def rchB (shs : List S65) (T : List Thg) (roots : List Int) (x : Int) : Bool := decide (Rch shs T roots x)
theorem rchB_iff (shs : List S65) (T : List Thg) (roots : List Int) (x : Int) : rchB shs T roots x = true ↔ Rch shs T roots x := by unfold rchB; simp
theorem rchB_eq {shs : List S65} {T : List Thg} {roots : List Int} {S : Int → Bool} (h : ∀ x, S x = true ↔ Rch shs T roots x) : S = rchB shs T roots := funext fun x => by rw [Bool.eq_iff_iff, h x, rchB_iff]
structure Ar where
  shs : List S65
  T : List Thg
  mv : Int
noncomputable def reachN (a : Ar) (roots : List Int) : Nat := sumT a.shs (keepT a.shs (rchB a.shs a.T roots) a.T 1)
noncomputable def clrA (a : Ar) (roots : List Int) : Ar := ⟨a.shs, clrT a.shs (rchB a.shs a.T roots) a.T, a.mv + 1⟩
noncomputable def nowL (a : Ar) (roots : List Int) : List Int := roots.map (ref1 (newF a.shs (rchB a.shs a.T roots) a.T))
def AZa (w : World) (P : Nat → Prop) (g most : Nat) (a : Ar) : Prop := AZ w P g most a.shs a.T a.mv
def PZa (w : World) (P : Nat → Prop) (g most : Nat) (a : Ar) (w' : World) (P' : Nat → Prop) : Prop := PZ w P g most a.shs a.T a.mv w' P'
section
variable {w w2 : World} {P P' : Nat → Prop} {g most : Nat} {a : Ar}
theorem clear_a (h : AZa w P g most a) (hmv : 0 ≤ a.mv ∧ a.mv ≤ 1000000000) {A : Option Addr} {c : Nat} {roots : List Int} {ok : Nat → Prop} (hr : Kd.F (Kd.int .i64) w ok A roots.length roots) (hok : ∀ k, ok k → k < w.heap.size → ¬ P k) (hc : roots.length ≤ c) (hin : ∀ r ∈ roots, inR r) (hrl : roots.length ≤ 1000000) :
    Calls Try.prog 14 #[.pointer (some ⟨g, 0, none⟩), .slice A roots.length c] w fun e w' => ∃ v, e = .returned v ∧ w'.ownsRow w.heap.size 3 1 v roots.length (nums .i64 (nowL a roots)) ∧ PZa w P g most (clrA a roots) w' P := by
  refine (clear_az h hmv hr hok hc hin hrl).mono ?_
  rintro e w' ⟨S, v, rfl, h1, h2, h3⟩
  have := rchB_eq h1
  subst this
  exact ⟨v, rfl, h2, h3⟩
theorem reached_a (h : AZa w P g most a) {A : Option Addr} {c : Nat} {roots : List Int} (hr : Kd.C (Kd.int .i64) w A roots.length roots) (hc : roots.length ≤ c) (hin : ∀ r ∈ roots, inR r) :
    Calls Try.prog 17 #[.pointer (some ⟨g, 0, none⟩), .slice A roots.length c] w fun e w' => e = .returned (.int .i64 (reachN a roots : Nat)) ∧ Below w.heap.size w w' := by
  refine (reached_az h hr hc hin).mono ?_
  rintro e w' ⟨S, rfl, h1, h2⟩
  have := rchB_eq h1
  subst this
  exact ⟨rfl, h2⟩
end
noncomputable def doF (most : Nat) (a : Ar) (x : S35) : Ar × Int :=
  if x.f0 = 0 then (⟨a.shs ++ [⟨x.f1.map (· == 3), false, false⟩], a.T, a.mv⟩, a.shs.length)
  else if x.f0 = 1 then (⟨a.shs ++ [⟨[], true, x.f2 == 3⟩], a.T, a.mv⟩, a.shs.length)
  else if x.f0 = 2 then (⟨a.shs, (makeF most a.shs a.T x.f2 x.f3).1, a.mv⟩, (makeF most a.shs a.T x.f2 x.f3).2)
  else if x.f0 = 3 then (⟨a.shs, setT a.shs a.T 1 x.f4 x.f3 x.f5, a.mv⟩, 0)
  else if x.f0 = 4 then (clrA a x.f6, reachN (clrA a x.f6) x.f6)
  else (a, reachN a x.f6)
structure CallR (w : World) (ok : Nat → Prop) (x : S35) (A1 : Option Addr) (c1 : Nat) (A6 : Option Addr) (c6 : Nat) : Prop where
  l1 : x.f1.length ≤ c1
  l6 : x.f6.length ≤ c6
  r1 : Kd.F (Kd.int .i64) w ok A1 x.f1.length x.f1
  r6 : Kd.F (Kd.int .i64) w ok A6 x.f6.length x.f6
  m1 : x.f1.length ≤ 50
  m6 : x.f6.length ≤ 100
  in5 : inR x.f5
  in6 : ∀ r ∈ x.f6, inR r
theorem CallR.chg {w w2 : World} {ok P : Nat → Prop} {x : S35} {A1 : Option Addr} {c1 : Nat} {A6 : Option Addr} {c6 : Nat} (h : CallR w ok x A1 c1 A6 c6) (hc : Chg P w w2) (hd : ∀ k, ok k → k < w.heap.size → ¬ P k) : CallR w2 ok x A1 c1 A6 c6 :=
  ⟨h.l1, h.l6, Kd.F_step h.r1 (fun k ho hl => hc.block k hl (hd k ho hl)), Kd.F_step h.r6 (fun k ho hl => hc.block k hl (hd k ho hl)), h.m1, h.m6, h.in5, h.in6⟩
def callV (x : S35) (A1 : Option Addr) (c1 : Nat) (A6 : Option Addr) (c6 : Nat) : Value := .agg #[.int .i64 x.f0, .slice A1 x.f1.length c1, .int .i64 x.f2, .int .i64 x.f3, .int .i64 x.f4, .int .i64 x.f5, .slice A6 x.f6.length c6]
def PostD (w : World) (P : Nat → Prop) (g most : Nat) (r : Ar × Int) (e : Ending) (w' : World) : Prop := e = .returned (.int .i64 r.2) ∧ ∃ P', PZa w P g most r.1 w' P'
set_option maxHeartbeats 8000000 in
set_option maxRecDepth 100000 in
theorem do_calls {w : World} {ok P : Nat → Prop} {g most : Nat} {a : Ar} {x : S35} {A1 : Option Addr} {c1 : Nat} {A6 : Option Addr} {c6 : Nat} (h : AZa w P g most a) (hx : CallR w ok x A1 c1 A6 c6) (hok : ∀ k, ok k → ¬ P k) (hs : a.shs.length ≤ 100000) (hmv : 0 ≤ a.mv ∧ a.mv ≤ 1000000000) :
    Calls Try.prog 22 #[.pointer (some ⟨g, 0, none⟩), callV x A1 c1 A6 c6] w (PostD w P g most (doF most a x)) := by
  have HB : Aside0 (Below w.heap.size w (w.alloc (.cells #[.int .i64 x.f0, .slice A1 x.f1.length c1, .int .i64 x.f2, .int .i64 x.f3, .int .i64 x.f4, .int .i64 x.f5, .slice A6 x.f6.length c6] 35))) := ⟨below_alloc (Below.refl _ _) _⟩
  have HA : Aside0 (AZ (w.alloc (.cells #[.int .i64 x.f0, .slice A1 x.f1.length c1, .int .i64 x.f2, .int .i64 x.f3, .int .i64 x.f4, .int .i64 x.f5, .slice A6 x.f6.length c6] 35)) P g most a.shs a.T a.mv) := ⟨AZ.below h HB.out⟩
  have HX : Aside0 (CallR (w.alloc (.cells #[.int .i64 x.f0, .slice A1 x.f1.length c1, .int .i64 x.f2, .int .i64 x.f3, .int .i64 x.f4, .int .i64 x.f5, .slice A6 x.f6.length c6] 35)) ok x A1 c1 A6 c6) := ⟨hx.chg (P := P) (Chg.of_below HB.out) (fun k ho _ => hok k ho)⟩
  have HBX : Aside0 (Blk (w.alloc (.cells #[.int .i64 x.f0, .slice A1 x.f1.length c1, .int .i64 x.f2, .int .i64 x.f3, .int .i64 x.f4, .int .i64 x.f5, .slice A6 x.f6.length c6] 35)) w.heap.size 35 #[.int .i64 x.f0, .slice A1 x.f1.length c1, .int .i64 x.f2, .int .i64 x.f3, .int .i64 x.f4, .int .i64 x.f5, .slice A6 x.f6.length c6]) := ⟨Blk.made _ _ _⟩
  have HPZ : Aside0 (∀ sa T mv w' P', PZ (w.alloc (.cells #[.int .i64 x.f0, .slice A1 x.f1.length c1, .int .i64 x.f2, .int .i64 x.f3, .int .i64 x.f4, .int .i64 x.f5, .slice A6 x.f6.length c6] 35)) P g most sa T mv w' P' → PZ w P g most sa T mv w' P') := ⟨fun sa T mv w' P' hz => ⟨hz.az, Chg.trans (Chg.of_below HB.out) hz.ch (fun k hk => .inl hk), fun k hk => (hz.nx k hk).imp id (fun hh => Nat.le_trans HB.out.size hh)⟩⟩
  have hin5 := hx.in5
  have m1 := hx.m1
  have m6 := hx.m6
  have HLT := Aside0.mk h.lt
  clear h hx
  unfold PostD doF callV
  obtain ⟨z0, z1, z2, z3, z4, z5, z6⟩ : _ ∧ _ ∧ _ ∧ _ ∧ _ ∧ _ ∧ _ := ⟨HBX.out.cell (o := 0) (v := .int .i64 x.f0) rfl, HBX.out.cell (o := 1) (v := .slice A1 x.f1.length c1) rfl, HBX.out.cell (o := 2) (v := .int .i64 x.f2) rfl, HBX.out.cell (o := 3) (v := .int .i64 x.f3) rfl, HBX.out.cell (o := 4) (v := .int .i64 x.f4) rfl, HBX.out.cell (o := 5) (v := .int .i64 x.f5) rfl, HBX.out.cell (o := 6) (v := .slice A6 x.f6.length c6) rfl⟩
  generalize hg1 : x.f1.length = n1 at *
  generalize hg6 : x.f6.length = n6 at *
  by_cases h0 : x.f0 = 0
  · rw [if_pos h0]
    have b0 : (x.f0 == 0) = true := by simpa using h0
    have H : Aside0 (Calls Try.prog 15 #[.pointer (some ⟨g, 0, none⟩), .slice A1 n1 c1] (w.alloc (.cells #[.int .i64 x.f0, .slice A1 n1 c1, .int .i64 x.f2, .int .i64 x.f3, .int .i64 x.f4, .int .i64 x.f5, .slice A6 n6 c6] 35)) fun e w' => e = .returned (.int .i64 (a.shs.length : Int)) ∧ ∃ P', PZ (w.alloc (.cells #[.int .i64 x.f0, .slice A1 n1 c1, .int .i64 x.f2, .int .i64 x.f3, .int .i64 x.f4, .int .i64 x.f5, .slice A6 n6 c6] 35)) P g most (a.shs ++ [⟨x.f1.map (· == 3), false, false⟩]) a.T a.mv w' P') := ⟨by subst hg1; subst hg6; exact object_az HA.out hs (Kd.F_now HX.out.r1) HX.out.l1 (by omega)⟩
    clear h0 z0 z1 z2 z3 z4 z5 z6
    go_enter Try.func22, Try.ntmps22
    go_wp2_with (first | (go_at_call 15; (with_reducible refine (H.out).mono ?_); rintro e w2 ⟨rfl, P', hp⟩; have HP := Aside0.mk (HPZ.out _ _ _ _ _ hp); clear hp))
    (try go_ret)
    exact ⟨rfl, P', HP.out⟩
  rw [if_neg h0]
  by_cases h1 : x.f0 = 1
  · rw [if_pos h1]
    have b0 : (x.f0 == 0) = false := by simpa using h0
    have b1 : (x.f0 == 1) = true := by simpa using h1
    have H : Aside0 (Calls Try.prog 11 #[.pointer (some ⟨g, 0, none⟩), .int .i64 x.f2] (w.alloc (.cells #[.int .i64 x.f0, .slice A1 n1 c1, .int .i64 x.f2, .int .i64 x.f3, .int .i64 x.f4, .int .i64 x.f5, .slice A6 n6 c6] 35)) fun e w' => e = .returned (.int .i64 (a.shs.length : Int)) ∧ ∃ P', PZ (w.alloc (.cells #[.int .i64 x.f0, .slice A1 n1 c1, .int .i64 x.f2, .int .i64 x.f3, .int .i64 x.f4, .int .i64 x.f5, .slice A6 n6 c6] 35)) P g most (a.shs ++ [⟨[], true, x.f2 == 3⟩]) a.T a.mv w' P') := ⟨array_az HA.out hs x.f2⟩
    clear h0 h1 z0 z1 z2 z3 z4 z5 z6
    go_enter Try.func22, Try.ntmps22
    go_wp2_with (first | (go_at_call 11; (with_reducible refine (H.out).mono ?_); rintro e w2 ⟨rfl, P', hp⟩; have HP := Aside0.mk (HPZ.out _ _ _ _ _ hp); clear hp))
    (try go_ret)
    exact ⟨rfl, P', HP.out⟩
  rw [if_neg h1]
  by_cases h2 : x.f0 = 2
  · rw [if_pos h2]
    have b0 : (x.f0 == 0) = false := by simpa using h0
    have b1 : (x.f0 == 1) = false := by simpa using h1
    have b2 : (x.f0 == 2) = true := by simpa using h2
    have H : Aside0 (Calls Try.prog 12 #[.pointer (some ⟨g, 0, none⟩), .int .i64 x.f2, .int .i64 x.f3] (w.alloc (.cells #[.int .i64 x.f0, .slice A1 n1 c1, .int .i64 x.f2, .int .i64 x.f3, .int .i64 x.f4, .int .i64 x.f5, .slice A6 n6 c6] 35)) fun e w' => e = .returned (.int .i64 (makeF most a.shs a.T x.f2 x.f3).2) ∧ PZ (w.alloc (.cells #[.int .i64 x.f0, .slice A1 n1 c1, .int .i64 x.f2, .int .i64 x.f3, .int .i64 x.f4, .int .i64 x.f5, .slice A6 n6 c6] 35)) P g most a.shs (makeF most a.shs a.T x.f2 x.f3).1 a.mv w' P) := ⟨make_az HA.out x.f2 x.f3⟩
    clear h0 h1 h2 z0 z1 z2 z3 z4 z5 z6
    go_enter Try.func22, Try.ntmps22
    go_wp2_with (first | (go_at_call 12; (with_reducible refine (H.out).mono ?_); rintro e w2 ⟨rfl, hp⟩; have HP := Aside0.mk (HPZ.out _ _ _ _ _ hp); clear hp))
    (try go_ret)
    exact ⟨rfl, P, HP.out⟩
  rw [if_neg h2]
  by_cases h3 : x.f0 = 3
  · rw [if_pos h3]
    have b0 : (x.f0 == 0) = false := by simpa using h0
    have b1 : (x.f0 == 1) = false := by simpa using h1
    have b2 : (x.f0 == 2) = false := by simpa using h2
    have b3 : (x.f0 == 3) = true := by simpa using h3
    have H : Aside0 (Calls Try.prog 16 #[.pointer (some ⟨g, 0, none⟩), .int .i64 x.f4, .int .i64 x.f3, .int .i64 x.f5] (w.alloc (.cells #[.int .i64 x.f0, .slice A1 n1 c1, .int .i64 x.f2, .int .i64 x.f3, .int .i64 x.f4, .int .i64 x.f5, .slice A6 n6 c6] 35)) fun e w' => e = .returned (.tuple #[]) ∧ PZ (w.alloc (.cells #[.int .i64 x.f0, .slice A1 n1 c1, .int .i64 x.f2, .int .i64 x.f3, .int .i64 x.f4, .int .i64 x.f5, .slice A6 n6 c6] 35)) P g most a.shs (setT a.shs a.T 1 x.f4 x.f3 x.f5) a.mv w' P) := ⟨set_az HA.out x.f4 x.f3 x.f5 hin5⟩
    clear h0 h1 h2 h3 z0 z1 z2 z3 z4 z5 z6
    go_enter Try.func22, Try.ntmps22
    go_wp2_with (first | (go_at_call 16; (with_reducible refine (H.out).mono ?_); rintro e w2 ⟨rfl, hp⟩; have HP := Aside0.mk (HPZ.out _ _ _ _ _ hp); clear hp))
    (try go_ret)
    exact ⟨rfl, P, HP.out⟩
  rw [if_neg h3]
  by_cases h4 : x.f0 = 4
  · rw [if_pos h4]
    have b0 : (x.f0 == 0) = false := by simpa using h0
    have b1 : (x.f0 == 1) = false := by simpa using h1
    have b2 : (x.f0 == 2) = false := by simpa using h2
    have b3 : (x.f0 == 3) = false := by simpa using h3
    have b4 : (x.f0 == 4) = true := by simpa using h4
    have H : Aside0 (Calls Try.prog 14 #[.pointer (some ⟨g, 0, none⟩), .slice A6 n6 c6] (w.alloc (.cells #[.int .i64 x.f0, .slice A1 n1 c1, .int .i64 x.f2, .int .i64 x.f3, .int .i64 x.f4, .int .i64 x.f5, .slice A6 n6 c6] 35)) fun e w' => ∃ v, e = .returned v ∧ PZa (w.alloc (.cells #[.int .i64 x.f0, .slice A1 n1 c1, .int .i64 x.f2, .int .i64 x.f3, .int .i64 x.f4, .int .i64 x.f5, .slice A6 n6 c6] 35)) P g most (clrA a x.f6) w' P) := ⟨by
      subst hg1; subst hg6
      refine (clear_a HA.out hmv HX.out.r6 (fun k ho _ => hok k ho) HX.out.l6 HX.out.in6 (by omega)).mono ?_
      rintro e w' ⟨v, rfl, _, h2⟩
      exact ⟨v, rfl, h2⟩⟩
    have H2 : Aside0 (∀ w2, PZa (w.alloc (.cells #[.int .i64 x.f0, .slice A1 n1 c1, .int .i64 x.f2, .int .i64 x.f3, .int .i64 x.f4, .int .i64 x.f5, .slice A6 n6 c6] 35)) P g most (clrA a x.f6) w2 P → Calls Try.prog 17 #[.pointer (some ⟨g, 0, none⟩), .slice A6 n6 c6] w2 fun e w' => e = .returned (.int .i64 (reachN (clrA a x.f6) x.f6 : Nat)) ∧ Below w2.heap.size w2 w') := ⟨fun w2 h2 => by
      subst hg1; subst hg6
      exact reached_a h2.az (Kd.F_now (Kd.F_step HX.out.r6 (fun k ho hl => h2.ch.block k hl (hok k ho)))) HX.out.l6 HX.out.in6⟩
    have HBK : Aside0 (∀ w2, PZa (w.alloc (.cells #[.int .i64 x.f0, .slice A1 n1 c1, .int .i64 x.f2, .int .i64 x.f3, .int .i64 x.f4, .int .i64 x.f5, .slice A6 n6 c6] 35)) P g most (clrA a x.f6) w2 P → w2.cell? ⟨w.heap.size, 6, none⟩ = some (.slice A6 n6 c6)) := ⟨fun w2 h2 => by
      have h3 : Blk w2 w.heap.size 35 #[.int .i64 x.f0, .slice A1 n1 c1, .int .i64 x.f2, .int .i64 x.f3, .int .i64 x.f4, .int .i64 x.f5, .slice A6 n6 c6] := by
        have h1 := h2.ch.block w.heap.size HBX.out.lt (fun hh => by have := HLT.out _ hh; omega)
        unfold Blk
        rw [h1]
        exact HBX.out
      exact h3.cell rfl⟩
    have HPB : Aside0 (∀ w2 w3, PZa (w.alloc (.cells #[.int .i64 x.f0, .slice A1 n1 c1, .int .i64 x.f2, .int .i64 x.f3, .int .i64 x.f4, .int .i64 x.f5, .slice A6 n6 c6] 35)) P g most (clrA a x.f6) w2 P → Below w2.heap.size w2 w3 → PZa w P g most (clrA a x.f6) w3 P) := ⟨fun w2 w3 h2 hb => by
      have h3 := HPZ.out _ _ _ _ _ h2
      exact ⟨AZ.below h3.az hb, h3.ch.trans (Chg.of_below (P := P) hb) (fun k hk => .inl hk), h3.nx⟩⟩
    clear h0 h1 h2 h3 h4 z0 z1 z2 z3 z4 z5 z6
    go_enter Try.func22, Try.ntmps22
    go_wp2_with (first | (go_at_call 14; (with_reducible refine (H.out).mono ?_); rintro e w2 ⟨v, rfl, hp⟩; have y6 := HBK.out _ hp; have HP := Aside0.mk hp; clear hp) | (go_at_call 17; (with_reducible refine (H2.out _ HP.out).mono ?_); rintro e w3 ⟨rfl, hb3⟩; have HQ := Aside0.mk (HPB.out _ _ HP.out hb3); clear hb3 y6))
    (try go_ret)
    exact ⟨rfl, P, HQ.out⟩
  rw [if_neg h4]
  have b0 : (x.f0 == 0) = false := by simpa using h0
  have b1 : (x.f0 == 1) = false := by simpa using h1
  have b2 : (x.f0 == 2) = false := by simpa using h2
  have b3 : (x.f0 == 3) = false := by simpa using h3
  have b4 : (x.f0 == 4) = false := by simpa using h4
  have H2 : Aside0 (Calls Try.prog 17 #[.pointer (some ⟨g, 0, none⟩), .slice A6 n6 c6] (w.alloc (.cells #[.int .i64 x.f0, .slice A1 n1 c1, .int .i64 x.f2, .int .i64 x.f3, .int .i64 x.f4, .int .i64 x.f5, .slice A6 n6 c6] 35)) fun e w' => e = .returned (.int .i64 (reachN a x.f6 : Nat)) ∧ Below (w.alloc (.cells #[.int .i64 x.f0, .slice A1 n1 c1, .int .i64 x.f2, .int .i64 x.f3, .int .i64 x.f4, .int .i64 x.f5, .slice A6 n6 c6] 35)).heap.size (w.alloc (.cells #[.int .i64 x.f0, .slice A1 n1 c1, .int .i64 x.f2, .int .i64 x.f3, .int .i64 x.f4, .int .i64 x.f5, .slice A6 n6 c6] 35)) w') := ⟨by
    subst hg1; subst hg6
    exact reached_a HA.out (Kd.F_now HX.out.r6) HX.out.l6 HX.out.in6⟩
  have HPB : Aside0 (∀ w3, Below (w.alloc (.cells #[.int .i64 x.f0, .slice A1 n1 c1, .int .i64 x.f2, .int .i64 x.f3, .int .i64 x.f4, .int .i64 x.f5, .slice A6 n6 c6] 35)).heap.size (w.alloc (.cells #[.int .i64 x.f0, .slice A1 n1 c1, .int .i64 x.f2, .int .i64 x.f3, .int .i64 x.f4, .int .i64 x.f5, .slice A6 n6 c6] 35)) w3 → PZa w P g most a w3 P) := ⟨fun w3 hb => HPZ.out _ _ _ _ _ ⟨AZ.below HA.out hb, Chg.of_below hb, fun k hk => .inl hk⟩⟩
  clear h0 h1 h2 h3 h4 z0 z1 z2 z3 z4 z5 z6
  go_enter Try.func22, Try.ntmps22
  go_wp2_with (first | (go_at_call 17; (with_reducible refine (H2.out).mono ?_); rintro e w3 ⟨rfl, hb3⟩; have HQ := Aside0.mk (HPB.out _ hb3); clear hb3))
  (try go_ret)
  exact ⟨rfl, P, HQ.out⟩
end Go.Proofs.Ytibhjlmffgabgaa.PAll
