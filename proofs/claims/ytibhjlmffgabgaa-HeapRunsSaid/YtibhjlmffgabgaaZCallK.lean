import Derived.Test.YtibhjlmffgabgaaZG7
import Derived.Test.YtibhjlmffgabgaaZOpn
namespace Go.Proofs.Ytibhjlmffgabgaa.PAll
open Go.ChangeShapes Go.WideShapes Go.RowKit Go.Proofs.YtibhjlmffgabgaaW.PrintWords Go.Proofs.YtibhjlmffgabgaaW.PrintLast Go.Proofs.YtibhjlmffgabgaaW.PrintMore
open Go.Proofs.Ytibhjlmffgabgaa.MapInt
set_option linter.unusedVariables false
structure S35 where
 f0 : Int
 f1 : (List Int)
 f2 : Int
 f3 : Int
 f4 : Int
 f5 : Int
 f6 : (List Int)
def z35 : S35 := ⟨(0 : Int), ([] : List Int), (0 : Int), (0 : Int), (0 : Int), (0 : Int), ([] : List Int)⟩
def k35 : Kd S35 := Kd.iso (Kd.pair (Kd.int .i64) (Kd.pair (Kd.slice 3 (Kd.int .i64)) (Kd.pair (Kd.int .i64) (Kd.pair (Kd.int .i64) (Kd.pair (Kd.int .i64) (Kd.pair (Kd.int .i64) (Kd.slice 3 (Kd.int .i64)))))))) (fun x : S35 => (x.f0, x.f1, x.f2, x.f3, x.f4, x.f5, x.f6))
theorem k35_open {w : World} {x : S35} {cs : List Value} (h : k35.K w x cs) : ∃ A1 c1 A6 c6, cs = [.int .i64 x.f0, .slice A1 x.f1.length c1, .int .i64 x.f2, .int .i64 x.f3, .int .i64 x.f4, .int .i64 x.f5, .slice A6 x.f6.length c6] ∧ x.f1.length ≤ c1 ∧ x.f6.length ≤ c6 ∧ Kd.C (Kd.int .i64) w A1 x.f1.length x.f1 ∧ Kd.C (Kd.int .i64) w A6 x.f6.length x.f6 := by
 obtain ⟨_, _, rfl, rfl, ⟨_, _, rfl, ⟨A1, c1, rfl, l1, g1⟩, ⟨_, _, rfl, rfl, ⟨_, _, rfl, rfl, ⟨_, _, rfl, rfl, ⟨_, _, rfl, rfl, ⟨A6, c6, rfl, l6, g6⟩⟩⟩⟩⟩⟩⟩ := h
 exact ⟨A1, c1, A6, c6, rfl, l1, l6, g1, g6⟩
theorem k35_mk (w : World) (x : S35) {A1 : Option Addr} {c1 : Nat} {A6 : Option Addr} {c6 : Nat} (l1 : x.f1.length ≤ c1) (l6 : x.f6.length ≤ c6) (g1 : Kd.C (Kd.int .i64) w A1 x.f1.length x.f1) (g6 : Kd.C (Kd.int .i64) w A6 x.f6.length x.f6) : k35.K w x [.int .i64 x.f0, .slice A1 x.f1.length c1, .int .i64 x.f2, .int .i64 x.f3, .int .i64 x.f4, .int .i64 x.f5, .slice A6 x.f6.length c6] := ⟨[.int .i64 x.f0], [.slice A1 x.f1.length c1, .int .i64 x.f2, .int .i64 x.f3, .int .i64 x.f4, .int .i64 x.f5, .slice A6 x.f6.length c6], rfl, rfl, ⟨[.slice A1 x.f1.length c1], [.int .i64 x.f2, .int .i64 x.f3, .int .i64 x.f4, .int .i64 x.f5, .slice A6 x.f6.length c6], rfl, ⟨A1, c1, rfl, l1, g1⟩, ⟨[.int .i64 x.f2], [.int .i64 x.f3, .int .i64 x.f4, .int .i64 x.f5, .slice A6 x.f6.length c6], rfl, rfl, ⟨[.int .i64 x.f3], [.int .i64 x.f4, .int .i64 x.f5, .slice A6 x.f6.length c6], rfl, rfl, ⟨[.int .i64 x.f4], [.int .i64 x.f5, .slice A6 x.f6.length c6], rfl, rfl, ⟨[.int .i64 x.f5], [.slice A6 x.f6.length c6], rfl, rfl, ⟨A6, c6, rfl, l6, g6⟩⟩⟩⟩⟩⟩⟩
def rd_T35 (xs : List S35) (i : Int) : S35 := xs.getD i.toNat z35
theorem at_T35 {w : World} {A : Option Addr} {n : Nat} {xs : List S35} (h : Kd.C k35 w A n xs) (i : Int) (h0 : 0 ≤ i) (h1 : i < n) : ∃ ad A1 c1 A6 c6, A = some ad ∧ w.cell? (ad.add (i.toNat * 7)) = some (.int .i64 (rd_T35 xs i).f0) ∧ w.cell? ⟨(ad.add (i.toNat * 7)).block, (ad.add (i.toNat * 7)).off + 1, none⟩ = some (.slice A1 (rd_T35 xs i).f1.length c1) ∧ w.cell? ⟨(ad.add (i.toNat * 7)).block, (ad.add (i.toNat * 7)).off + 2, none⟩ = some (.int .i64 (rd_T35 xs i).f2) ∧ w.cell? ⟨(ad.add (i.toNat * 7)).block, (ad.add (i.toNat * 7)).off + 3, none⟩ = some (.int .i64 (rd_T35 xs i).f3) ∧ w.cell? ⟨(ad.add (i.toNat * 7)).block, (ad.add (i.toNat * 7)).off + 4, none⟩ = some (.int .i64 (rd_T35 xs i).f4) ∧ w.cell? ⟨(ad.add (i.toNat * 7)).block, (ad.add (i.toNat * 7)).off + 5, none⟩ = some (.int .i64 (rd_T35 xs i).f5) ∧ w.cell? ⟨(ad.add (i.toNat * 7)).block, (ad.add (i.toNat * 7)).off + 6, none⟩ = some (.slice A6 (rd_T35 xs i).f6.length c6) ∧ (rd_T35 xs i).f1.length ≤ c1 ∧ (rd_T35 xs i).f6.length ≤ c6 ∧ Kd.C (Kd.int .i64) w A1 (rd_T35 xs i).f1.length (rd_T35 xs i).f1 ∧ Kd.C (Kd.int .i64) w A6 (rd_T35 xs i).f6.length (rd_T35 xs i).f6 := by
 obtain ⟨ad, c, e, _, hK, hc0⟩ := Kd.C_get h z35 i h0 h1
 have hc : ∀ j u, c[j]? = some u → w.cell? (ad.add (i.toNat * 7 + j)) = some u := hc0
 obtain ⟨A1, c1, A6, c6, rfl, l1, l6, g1, g6⟩ := k35_open hK
 exact ⟨ad, A1, c1, A6, c6, e, hc 0 _ rfl, by rw [← add_field _ _ 1 (by omega)]; exact hc 1 _ rfl, by rw [← add_field _ _ 2 (by omega)]; exact hc 2 _ rfl, by rw [← add_field _ _ 3 (by omega)]; exact hc 3 _ rfl, by rw [← add_field _ _ 4 (by omega)]; exact hc 4 _ rfl, by rw [← add_field _ _ 5 (by omega)]; exact hc 5 _ rfl, by rw [← add_field _ _ 6 (by omega)]; exact hc 6 _ rfl, l1, l6, g1, g6⟩
def G35 {H : Type} (x : S35) (y : DataW H) : Prop := ∃ d0 d1 d2 d3 d4 d5 d6, y = .agg [d0, d1, d2, d3, d4, d5, d6] ∧ GInt .i64 x.f0 d0 ∧ GSl (GInt .i64) x.f1 d1 ∧ GInt .i64 x.f2 d2 ∧ GInt .i64 x.f3 d3 ∧ GInt .i64 x.f4 d4 ∧ GInt .i64 x.f5 d5 ∧ GSl (GInt .i64) x.f6 d6
theorem opn35 {H : Type} {enc : TypeId × Value → H} {w : World} : Opn enc Try.prog w 35 k35 G35 := fun fuel cs x h => by
 obtain ⟨hl, ys, m, hx, hyl, hf⟩ := opn_fields Try.underlying35 (by kernel_rfl) (by kernel_rfl) h
 obtain ⟨v0, y0, e0, q0, t0⟩ := hf 0 _ rfl
 obtain ⟨a0, K0, g0⟩ := (opn_int Try.underlying3) _ _ _ t0
 injection K0 with h0 _; subst h0
 obtain ⟨v1, y1, e1, q1, t1⟩ := hf 1 _ rfl
 obtain ⟨a1, K1, g1⟩ := (opn_slice Try.underlying30 (by kernel_rfl) (opn_int Try.underlying3)) _ _ _ t1
 obtain ⟨A1, c1, h1, l1, r1⟩ := K1
 injection h1 with h1 _; subst h1
 obtain ⟨v2, y2, e2, q2, t2⟩ := hf 2 _ rfl
 obtain ⟨a2, K2, g2⟩ := (opn_int Try.underlying3) _ _ _ t2
 injection K2 with h2 _; subst h2
 obtain ⟨v3, y3, e3, q3, t3⟩ := hf 3 _ rfl
 obtain ⟨a3, K3, g3⟩ := (opn_int Try.underlying3) _ _ _ t3
 injection K3 with h3 _; subst h3
 obtain ⟨v4, y4, e4, q4, t4⟩ := hf 4 _ rfl
 obtain ⟨a4, K4, g4⟩ := (opn_int Try.underlying3) _ _ _ t4
 injection K4 with h4 _; subst h4
 obtain ⟨v5, y5, e5, q5, t5⟩ := hf 5 _ rfl
 obtain ⟨a5, K5, g5⟩ := (opn_int Try.underlying2) _ _ _ t5
 injection K5 with h5 _; subst h5
 obtain ⟨v6, y6, e6, q6, t6⟩ := hf 6 _ rfl
 obtain ⟨a6, K6, g6⟩ := (opn_slice Try.underlying30 (by kernel_rfl) (opn_int Try.underlying3)) _ _ _ t6
 obtain ⟨A6, c6, h6, l6, r6⟩ := K6
 injection h6 with h6 _; subst h6
 have hcs : cs = [.int .i64 a0, .slice A1 a1.length c1, .int .i64 a2, .int .i64 a3, .int .i64 a4, .int .i64 a5, .slice A6 a6.length c6] := by
  match cs, hl with
  | [u0, u1, u2, u3, u4, u5, u6], _ =>
   obtain rfl := Option.some.inj e0
   obtain rfl := Option.some.inj e1
   obtain rfl := Option.some.inj e2
   obtain rfl := Option.some.inj e3
   obtain rfl := Option.some.inj e4
   obtain rfl := Option.some.inj e5
   obtain rfl := Option.some.inj e6
   rfl
 have hys : ys = [y0, y1, y2, y3, y4, y5, y6] := by
  match ys, hyl with
  | [u0, u1, u2, u3, u4, u5, u6], _ =>
   obtain rfl := Option.some.inj q0
   obtain rfl := Option.some.inj q1
   obtain rfl := Option.some.inj q2
   obtain rfl := Option.some.inj q3
   obtain rfl := Option.some.inj q4
   obtain rfl := Option.some.inj q5
   obtain rfl := Option.some.inj q6
   rfl
 rw [hys] at hx
 subst hcs
 exact ⟨⟨a0, a1, a2, a3, a4, a5, a6⟩, k35_mk w ⟨a0, a1, a2, a3, a4, a5, a6⟩ l1 l6 r1 r6, _, _, _, _, _, _, _, hx, g0, g1, g2, g3, g4, g5, g6⟩
end Go.Proofs.Ytibhjlmffgabgaa.PAll
