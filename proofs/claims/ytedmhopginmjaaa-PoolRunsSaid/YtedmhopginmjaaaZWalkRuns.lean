import Derived.Test.YtedmhopginmjaaaZG8
import Derived.Test.YtedmhopginmjaaaZBRead
import Derived.Test.YtedmhopginmjaaaZPAllx9
namespace Go.Proofs.Ytedmhopginmjaaa.PAll
open Go.RowKit Go.Proofs.YtedmhopginmjaaaW.PrintWords Go.Proofs.YtedmhopginmjaaaW.PrintLast Go.Proofs.YtedmhopginmjaaaW.PrintMore
open Go.Proofs.Ytedmhopginmjaaa.MapInt
set_option linter.unusedVariables false
set_option linter.unusedSimpArgs false
theorem lt_alloc (w : World) (o : Obj) : w.heap.size < (w.alloc o).heap.size := by show _ < (w.heap.push _).size; simp
theorem same_l0 (l : List S44) (hl : (l.length : Int) ≤ 9223372036854775807) : ∀ (j i : Nat), i + j = l.length → regletref03_Same.l0 (j + 1) l l i = some true
  | 0, i, h => by
    unfold regletref03_Same.l0
    rw [if_neg (by omega)]
  | j + 1, i, h => by
    unfold regletref03_Same.l0
    rw [if_pos (by omega), if_pos (by omega), if_pos (by omega), if_neg (by simp), wrap64_in _ (by omega)]
    exact same_l0 l hl j (i + 1) (by omega)
theorem same_f (l : List S44) (hl : (l.length : Int) ≤ 9223372036854775807) : regletref03_Same.f (l.length + 1) l l = some true := by
  unfold regletref03_Same.f
  rw [if_pos rfl]
  exact same_l0 l hl l.length 0 (by omega)
theorem read_r {W0 w : World} {g : Nat} {l : List Int} {bad : Bool} {er : Int} {out : List S44} {l2 : List Int} {b2 : Bool} (h : RS W0 w g l bad) (hv : readF validS l bad = (er, out, l2, b2)) :
    Calls Try.prog 15 #[.pointer (some ⟨g, 0, none⟩)] w fun e w' => ∃ A c, e = .returned (.tuple #[.slice A out.length c, .int .i64 er]) ∧ Kd.R k44 44 w' w.heap.size (fun _ => True) (.slice A out.length c) out ∧ RS W0 w' g l2 b2 ∧ w.grownBy w' (some g) := by
  refine (read_calls (vv := validS) h valid_all).mono ?_
  rintro e w' ⟨v, rfl, h1, h2, h3⟩
  rw [hv] at h1 h2 ⊢
  obtain ⟨A, c, rfl⟩ := Kd.R_slice h1
  exact ⟨A, c, rfl, h1, h2, h3⟩
theorem bread_r {W0 w : World} {g : Nat} {full l : List Int} {bad : Bool} {er : Int} {out : List S44} {l2 : List Int} {b2 : Bool} (h : BS W0 w g full l bad) (hv : readF validS l bad = (er, out, l2, b2)) :
    Calls Try.prog 18 #[.pointer (some ⟨g, 0, none⟩)] w fun e w' => ∃ A c, e = .returned (.tuple #[.slice A out.length c, .int .i64 er]) ∧ Kd.R k44 44 w' w.heap.size (fun _ => True) (.slice A out.length c) out ∧ BS W0 w' g full l2 b2 ∧ w.grownBy w' (some g) := by
  refine (bread_calls h).mono ?_
  rintro e w' ⟨v, rfl, h1, h2, h3⟩
  rw [hv] at h1 h2 ⊢
  obtain ⟨A, c, rfl⟩ := Kd.R_slice h1
  exact ⟨A, c, rfl, h1, h2, h3⟩
theorem row_kept {w0 w w' : World} {v : Value} {xs : List S44} {g : Nat} (h : Kd.R k44 44 w w0.heap.size (fun _ => True) v xs) (hg : w.grownBy w' (some g)) (hlt : g < w0.heap.size) : Kd.R k44 44 w' w0.heap.size (fun _ => True) v xs :=
  Kd.R_mono (Kd.R_grown (Kd.R_bound h) hg (fun k hk e => by injection e with e; have := hk.2.1; omega)) (fun _ _ => trivial)
theorem same_at {w : World} {A0 : Option Addr} {c0 : Nat} {A1 : Option Addr} {c1 : Nat} {l : List S44} {b0 b1 : Nat} (h0 : Kd.R k44 44 w b0 (fun _ => True) (.slice A0 l.length c0) l) (h1 : Kd.R k44 44 w b1 (fun _ => True) (.slice A1 l.length c1) l) :
    Calls Try.prog 19 #[.slice A0 l.length c0, .slice A1 l.length c1] w fun e w' => e = .returned (.bool true) ∧ Drawn0 w w' := by
  have r0 := Kd.R_reads' h0
  have r1 := Kd.R_reads' h1
  exact regletref03_Same.calls _ _ _ _ _ _ _ _ _ r0.2.2 r0.2.1 r1.2.2 r1.2.1 (same_f l (by have := Kd.C_max r0.2.2; omega))
set_option maxHeartbeats 16000000 in
set_option maxRecDepth 100000 in
theorem runs_x (A0 : Option Addr) (c0 : Nat) (b : List Int) (W : World) (hr0 : Kd.C (Kd.int .u8) W A0 b.length b) (hc0 : b.length ≤ c0) (h8 : ∀ x ∈ b, 0 ≤ x ∧ x < 256) :
    Calls Try.prog 6 #[.slice A0 b.length c0] W fun e w' => e = .returned (.bool true) ∧ Below W.heap.size W w' := by
  have HB := Aside0.mk (Below.refl W.heap.size W)
  have HR0 := Aside0.mk hr0
  have HC0 := Aside0.mk hc0
  have H8 := Aside0.mk h8
  have hm0 := Kd.C_max hr0
  rcases hv : readF validS b false with ⟨er, out, l2, b2⟩
  have HV := Aside0.mk hv
  clear hr0 hc0 h8 hv
  go_enter Try.func6, Try.ntmps6
  go_wp2_with (first | (go_at_call 8; (with_reducible refine (holds_calls _).mono ?_); rintro e w1 ⟨rfl, hb1⟩; have n_ := Aside0.mk (below_step HB.out hb1); clear HB hb1; have HB := n_; clear n_) | (go_at_call 9; (with_reducible refine (from_calls (Kd.C_below HR0.out HB.out) HC0.out H8.out).mono ?_); rintro e w2 ⟨g, rfl, hr, _, _⟩; have HTS := Aside0.mk (from_both (Kd.C_below HR0.out HB.out) HC0.out hr); clear hr) | (go_at_call 15; (with_reducible refine (read_r HTS.out.rs HV.out).mono ?_); rintro e w4 ⟨A4, c4, rfl, ho4, hr, hg⟩; have HR4 := Aside0.mk hr; have HB4 := Aside0.mk (HTS.out.bkept hg); have HO4 := Aside0.mk ho4; have hgz := hg.size; clear ho4 hr hg) | (go_at_call 18; (with_reducible refine (bread_r HB4.out HV.out).mono ?_); rintro e w5 ⟨A5, c5, rfl, ho5, hr, hg⟩; have HO5 := Aside0.mk ho5; have n_ := Aside0.mk (row_kept HO4.out hg (lt_alloc _ _)); clear HO4; have HO4 := n_; clear n_; have n_ := Aside0.mk (HTS.out.two HR4.out hr hg); clear HTS HR4 HB4 hgz; have HTS := n_; clear n_ ho5 hr hg) | ((try (refine gate_guard (by rfl) ?_; dsimp only)); go_at_call 19; (with_reducible refine (same_at HO4.out HO5.out).mono ?_); rintro e w6 ⟨rfl, hd⟩; have n_ := Aside0.mk (HTS.out.below (drawn0_bel hd)); clear HTS; have HTS := n_; clear n_ hd) | (go_at_call 14; (with_reducible refine (left_calls w1 _ g _ _ HTS.out.rs).mono ?_); rintro e w7 ⟨rfl, hbl⟩; have n_ := Aside0.mk (HTS.out.below hbl); clear HTS; have HTS := n_; clear n_; clear hbl; obtain ⟨A3, c3, t, hB3, _, _, ht3, hl3⟩ := HTS.out.bs.box; have g1 : w7.cell? ⟨w2.heap.size, 1, none⟩ = some (.int .i64 (t : Nat)) := hB3.cell rfl; have hll : (l2.length : Int) = (b.length : Int) - (t : Int) := drop_len hl3 ht3; have hw := wsub b.length t ht3 hm0; clear hB3 ht3 hl3))
  all_goals (try go_ret)
  all_goals exact ⟨rfl, below_step HB.out HTS.out.rs.bel⟩
theorem poolRuns_walk (a0 : Option Addr) (len0 cap0 : Nat) (z0 : List Int) (w : World)
    (w0 : (a0 = none ∧ len0 = 0 ∧ cap0 = 0 ∧ z0 = []) ∨ ∃ x, a0 = some x ∧ len0 ≤ cap0 ∧ cap0 ≤ maxLen ∧ z0.length = cap0 ∧ (∀ i, i < z0.length → w.cell? (x.add i) = some (.int .u8 (z0.getD i 0))) ∧ ∀ n ∈ z0, (Lit.int .u8 n).wf = true) (_y0 : len0 * 1 ≤ 140737488351232) :
    Calls Try.prog 6 #[.slice a0 len0 cap0] w fun e w' => e = .returned (.bool true) ∧ Below w.heap.size w w' := by
  obtain ⟨l0, rfl, hr0, hm0, hw0, hc0⟩ := ReadsInt.ofRowC w0
  exact runs_x a0 cap0 l0 w (Kd.C_of_reads (d := (0 : Int)) (h1 := fun _ => rfl) hr0) hc0 (fun x hx => wf_u8 (hw0 x hx))
end Go.Proofs.Ytedmhopginmjaaa.PAll
