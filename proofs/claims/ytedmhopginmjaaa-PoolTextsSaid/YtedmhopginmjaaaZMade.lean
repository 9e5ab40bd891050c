import Derived.Test.YtedmhopginmjaaaZOne
import Derived.Test.YtedmhopginmjaaaZPAllx5
import Derived.Deep.RegionWith
namespace Go.Proofs.Ytedmhopginmjaaa.PAll
open Go.RowKit Go.Proofs.YtedmhopginmjaaaW.PrintWords Go.Proofs.YtedmhopginmjaaaW.PrintLast Go.Proofs.YtedmhopginmjaaaW.PrintMore
open Go.Proofs.Ytedmhopginmjaaa.MapInt
set_option linter.unusedVariables false
set_option linter.unusedSimpArgs false
def k62 : Kd SR := Kd.iso (Kd.pair (Kd.int .i64) (Kd.pair (Kd.int .u64) (Kd.pair Kd.string (Kd.pair (Kd.int .i64) (Kd.pair (Kd.int .i64) (Kd.int .i64)))))) (fun x : SR => (x.kind, x.num, x.text, x.a0, x.a1, x.a2))
theorem k62_open {w : World} {x : SR} {cs : List Value} (h : k62.K w x cs) : cs = [.int .i64 x.kind, .int .u64 x.num, .string x.text, .int .i64 x.a0, .int .i64 x.a1, .int .i64 x.a2] := by
  obtain ⟨_, _, rfl, rfl, ⟨_, _, rfl, rfl, ⟨_, _, rfl, rfl, ⟨_, _, rfl, rfl, ⟨_, _, rfl, rfl, rfl⟩⟩⟩⟩⟩ := h
  exact rfl
theorem k62_openM {w : World} {base : Nat} {ok : Nat → Prop} {x : SR} {cs : List Value} (h : k62.M w base ok x cs) : cs = [.int .i64 x.kind, .int .u64 x.num, .string x.text, .int .i64 x.a0, .int .i64 x.a1, .int .i64 x.a2] := by
  obtain ⟨_, _, rfl, rfl, ⟨_, _, rfl, rfl, ⟨_, _, rfl, rfl, ⟨_, _, rfl, rfl, ⟨_, _, rfl, rfl, rfl⟩⟩⟩⟩⟩ := h
  exact rfl
theorem k62_mkM (w : World) (base : Nat) (ok : Nat → Prop) (x : SR) : k62.M w base ok x [.int .i64 x.kind, .int .u64 x.num, .string x.text, .int .i64 x.a0, .int .i64 x.a1, .int .i64 x.a2] :=
  ⟨[.int .i64 x.kind], [.int .u64 x.num, .string x.text, .int .i64 x.a0, .int .i64 x.a1, .int .i64 x.a2], rfl, rfl, ⟨[.int .u64 x.num], [.string x.text, .int .i64 x.a0, .int .i64 x.a1, .int .i64 x.a2], rfl, rfl, ⟨[.string x.text], [.int .i64 x.a0, .int .i64 x.a1, .int .i64 x.a2], rfl, rfl, ⟨[.int .i64 x.a0], [.int .i64 x.a1, .int .i64 x.a2], rfl, rfl, ⟨[.int .i64 x.a1], [.int .i64 x.a2], rfl, rfl, rfl⟩⟩⟩⟩⟩
def rd62 (xs : List SR) (i : Int) : SR := xs.getD i.toNat (rawZ 0)
theorem at62 {w : World} {A : Option Addr} {n : Nat} {xs : List SR} (h : Kd.C k62 w A n xs) (i : Int) (h0 : 0 ≤ i) (h1 : i < n) : ∃ ad, A = some ad ∧ w.cell? (ad.add (i.toNat * 6)) = some (.int .i64 (rd62 xs i).kind) ∧ w.cell? ⟨(ad.add (i.toNat * 6)).block, (ad.add (i.toNat * 6)).off + 1, none⟩ = some (.int .u64 (rd62 xs i).num) ∧ w.cell? ⟨(ad.add (i.toNat * 6)).block, (ad.add (i.toNat * 6)).off + 2, none⟩ = some (.string (rd62 xs i).text) ∧ w.cell? ⟨(ad.add (i.toNat * 6)).block, (ad.add (i.toNat * 6)).off + 3, none⟩ = some (.int .i64 (rd62 xs i).a0) ∧ w.cell? ⟨(ad.add (i.toNat * 6)).block, (ad.add (i.toNat * 6)).off + 4, none⟩ = some (.int .i64 (rd62 xs i).a1) ∧ w.cell? ⟨(ad.add (i.toNat * 6)).block, (ad.add (i.toNat * 6)).off + 5, none⟩ = some (.int .i64 (rd62 xs i).a2) := by
  obtain ⟨ad, c, e, _, hK, hc0⟩ := Kd.C_get h (rawZ 0) i h0 h1
  have hc : ∀ j u, c[j]? = some u → w.cell? (ad.add (i.toNat * 6 + j)) = some u := hc0
  obtain rfl := k62_open hK
  exact ⟨ad, e, hc 0 _ rfl, by rw [← add_field _ _ 1 (by omega)]; exact hc 1 _ rfl, by rw [← add_field _ _ 2 (by omega)]; exact hc 2 _ rfl, by rw [← add_field _ _ 3 (by omega)]; exact hc 3 _ rfl, by rw [← add_field _ _ 4 (by omega)]; exact hc 4 _ rfl, by rw [← add_field _ _ 5 (by omega)]; exact hc 5 _ rfl⟩
def textF (l : List SR) (i : Int) : ByteArray × Bool := if i < 1 ∨ (l.length : Int) ≤ i ∨ (rd62 l i).kind ≠ 1 then (⟨#[]⟩, false) else ((rd62 l i).text, true)
def classF (l : List SR) (i : Int) : ByteArray × Bool := if i < 1 ∨ (l.length : Int) ≤ i ∨ (rd62 l i).kind ≠ 7 then (⟨#[]⟩, false) else textF l (rd62 l i).a0
set_option maxHeartbeats 8000000 in
set_option maxRecDepth 100000 in
theorem text_calls {w : World} {A : Option Addr} {c : Nat} {l : List SR} (hr : Kd.C k62 w A l.length l) (hc : l.length ≤ c) (i : Int) {s : ByteArray} {ok : Bool} (hv : textF l i = (s, ok)) :
    Calls Try.prog 28 #[.slice A l.length c, .int .i64 i] w fun e w' => e = .returned (.tuple #[.string s, .bool ok]) ∧ w' = w := by
  have HR := Aside0.mk hr
  have hlm := Kd.C_max hr
  unfold textF at hv
  by_cases h1 : i < 1
  · rw [if_pos (.inl h1)] at hv
    injection hv with hv1 hv2; subst hv1; subst hv2
    clear hr
    go_enter Try.func28, Try.ntmps28
    go_wp2_with fail
    go_ret2
    exact ⟨rfl, rfl⟩
  by_cases h2 : (l.length : Int) ≤ i
  · rw [if_pos (.inr (.inl h2))] at hv
    injection hv with hv1 hv2; subst hv1; subst hv2
    clear hr
    go_enter Try.func28, Try.ntmps28
    go_wp2_with fail
    go_ret2
    exact ⟨rfl, rfl⟩
  obtain ⟨ad, rfl, x0, x1, x2, x3, x4, x5⟩ := at62 hr i (by omega) (by omega)
  obtain ⟨m, rfl⟩ : ∃ m : Nat, i = m := ⟨i.toNat, by omega⟩
  rw [Int.toNat_natCast] at x0 x1 x2 x3 x4 x5
  have hml : (m : Int) < (l.length : Int) := by omega
  by_cases h3 : (rd62 l m).kind = 1
  · rw [if_neg (by omega)] at hv
    generalize rd62 l (m : Int) = x at *
    rw [h3] at x0
    clear h3
    injection hv with hv1 hv2; subst hv1; subst hv2
    clear hr
    go_enter Try.func28, Try.ntmps28
    go_wp2_with fail
    go_ret2
    exact ⟨rfl, rfl⟩
  · rw [if_pos (.inr (.inr h3))] at hv
    injection hv with hv1 hv2; subst hv1; subst hv2
    have h3b : ((rd62 l (m : Int)).kind == 1) = false := by simpa using h3
    have h3c : ((rd62 l (m : Int)).kind != 1) = true := by simpa using h3
    generalize rd62 l (m : Int) = x at *
    clear hr
    go_enter Try.func28, Try.ntmps28
    go_wp2_with fail
    go_ret2
    exact ⟨rfl, rfl⟩
set_option maxHeartbeats 8000000 in
set_option maxRecDepth 100000 in
theorem class_calls {w : World} {A : Option Addr} {c : Nat} {l : List SR} (hr : Kd.C k62 w A l.length l) (hc : l.length ≤ c) (i : Int) {s : ByteArray} {ok : Bool} (hv : classF l i = (s, ok)) :
    Calls Try.prog 29 #[.slice A l.length c, .int .i64 i] w fun e w' => e = .returned (.tuple #[.string s, .bool ok]) ∧ w' = w := by
  have HR := Aside0.mk hr
  have hlm := Kd.C_max hr
  unfold classF at hv
  by_cases h1 : i < 1
  · rw [if_pos (.inl h1)] at hv
    injection hv with hv1 hv2; subst hv1; subst hv2
    clear hr
    go_enter Try.func29, Try.ntmps29
    go_wp2_with fail
    go_ret2
    exact ⟨rfl, rfl⟩
  by_cases h2 : (l.length : Int) ≤ i
  · rw [if_pos (.inr (.inl h2))] at hv
    injection hv with hv1 hv2; subst hv1; subst hv2
    clear hr
    go_enter Try.func29, Try.ntmps29
    go_wp2_with fail
    go_ret2
    exact ⟨rfl, rfl⟩
  obtain ⟨ad, rfl, x0, x1, x2, x3, x4, x5⟩ := at62 hr i (by omega) (by omega)
  obtain ⟨m, rfl⟩ : ∃ m : Nat, i = m := ⟨i.toNat, by omega⟩
  rw [Int.toNat_natCast] at x0 x1 x2 x3 x4 x5
  have hml : (m : Int) < (l.length : Int) := by omega
  by_cases h3 : (rd62 l m).kind = 7
  · rw [if_neg (by omega)] at hv
    generalize rd62 l (m : Int) = x at *
    rw [h3] at x0
    clear h3
    have HV := Aside0.mk hv
    clear hv
    clear hr
    go_enter Try.func29, Try.ntmps29
    go_wp2_with (first | (go_at_call 28; (with_reducible refine (text_calls HR.out hc _ HV.out).mono ?_); rintro e w2 ⟨rfl, rfl⟩))
    go_ret2
    exact ⟨rfl, rfl⟩
  · rw [if_pos (.inr (.inr h3))] at hv
    injection hv with hv1 hv2; subst hv1; subst hv2
    have h3b : ((rd62 l (m : Int)).kind == 7) = false := by simpa using h3
    have h3c : ((rd62 l (m : Int)).kind != 7) = true := by simpa using h3
    generalize rd62 l (m : Int) = x at *
    clear hr
    go_enter Try.func29, Try.ntmps29
    go_wp2_with fail
    go_ret2
    exact ⟨rfl, rfl⟩
end Go.Proofs.Ytedmhopginmjaaa.PAll
