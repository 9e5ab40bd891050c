import Derived.Test.YtedmhopginmjaaaZRead
import Derived.Test.YtedmhopginmjaaaZValid
namespace Go.Proofs.Ytedmhopginmjaaa.PAll
open Go.RowKit Go.Proofs.YtedmhopginmjaaaW.PrintWords Go.Proofs.YtedmhopginmjaaaW.PrintLast Go.Proofs.YtedmhopginmjaaaW.PrintMore
open Go.Proofs.Ytedmhopginmjaaa.MapInt
set_option linter.unusedVariables false
set_option linter.unusedSimpArgs false
set_option maxHeartbeats 8000000 in
set_option maxRecDepth 100000 in
theorem from_calls {w : World} {A : Option Addr} {c : Nat} {l : List Int} (hr : Kd.C (Kd.int .u8) w A l.length l) (hc : l.length ≤ c) (h8 : ∀ x ∈ l, 0 ≤ x ∧ x < 256) :
    Calls Try.prog 9 #[.slice A l.length c] w fun e w' => ∃ g, e = .returned (.pointer (some ⟨g, 0, none⟩)) ∧ RS w w' g l false ∧ Below w.heap.size w w' ∧ w.heap.size ≤ g := by
  have HR : Aside0 (RS w (w.alloc (.cells #[.slice A l.length c, .bool false] 58)) w.heap.size l false) := ⟨⟨(Below.refl _ _).alloc (Nat.le_refl _) _, Nat.le_refl _, h8, Kd.C_max hr, A, c, Blk.made _ _ _, hc, hr⟩⟩
  clear hr h8
  go_enter Try.func9, Try.ntmps9
  go_wp2_with fail
  (try go_ret)
  exact ⟨_, rfl, HR.out, (Below.refl _ _).alloc (Nat.le_refl _) _, Nat.le_refl _⟩
theorem ex1 : readF validS [0, 2, 1, 0, 1, 65] false = (0, [conZ 0, ⟨1, 0, ⟨#[65]⟩, ⟨#[]⟩, ⟨#[]⟩⟩], [], false) := by kernel_rfl
theorem ex2 : readF validS [0, 2, 1, 0, 5] false = (11, [], [], true) := by kernel_rfl
theorem lit_C (w : World) (l : List Int) (hl : l.length ≤ 1000) : Kd.C (Kd.int .u8) (w.alloc (.cells (nums .u8 l).toArray 5)) (some ⟨w.heap.size, 0, none⟩) l.length l :=
  (Kd.R_reads' (Kd.R_of_own (enc := Value.int .u8) (h1 := fun _ => rfl) (ok := fun _ => True) (own_lit w w.heap.size 5 .u8 l (Nat.le_refl _) (by omega)) (fun _ _ => trivial))).2.2
theorem from_lit {w : World} (l : List Int) (n : Nat) (cs : Array Value) (hn : n = l.length) (hcs : cs = (nums .u8 l).toArray) (hl : l.length ≤ 1000) (h8 : ∀ x ∈ l, 0 ≤ x ∧ x < 256) :
    Calls Try.prog 9 #[.slice (some ⟨w.heap.size, 0, none⟩) n n] (w.alloc (.cells cs 5)) fun e w' => ∃ g, e = .returned (.pointer (some ⟨g, 0, none⟩)) ∧ RS (w.alloc (.cells cs 5)) w' g l false := by
  subst hn
  subst hcs
  refine (from_calls (lit_C w l hl) (Nat.le_refl _) h8).mono ?_
  rintro e w' ⟨g, rfl, hr, _, _⟩
  exact ⟨g, rfl, hr⟩
theorem from_ex1 {w : World} : Calls Try.prog 9 #[.slice (some ⟨w.heap.size, 0, none⟩) 6 6] (w.alloc (.cells #[.int .u8 0, .int .u8 2, .int .u8 1, .int .u8 0, .int .u8 1, .int .u8 65] 5)) fun e w' => ∃ g, e = .returned (.pointer (some ⟨g, 0, none⟩)) ∧ RS (w.alloc (.cells #[.int .u8 0, .int .u8 2, .int .u8 1, .int .u8 0, .int .u8 1, .int .u8 65] 5)) w' g [0, 2, 1, 0, 1, 65] false :=
  from_lit [0, 2, 1, 0, 1, 65] 6 #[.int .u8 0, .int .u8 2, .int .u8 1, .int .u8 0, .int .u8 1, .int .u8 65] rfl rfl (by decide) (by decide)
theorem from_ex2 {w : World} : Calls Try.prog 9 #[.slice (some ⟨w.heap.size, 0, none⟩) 5 5] (w.alloc (.cells #[.int .u8 0, .int .u8 2, .int .u8 1, .int .u8 0, .int .u8 5] 5)) fun e w' => ∃ g, e = .returned (.pointer (some ⟨g, 0, none⟩)) ∧ RS (w.alloc (.cells #[.int .u8 0, .int .u8 2, .int .u8 1, .int .u8 0, .int .u8 5] 5)) w' g [0, 2, 1, 0, 5] false :=
  from_lit [0, 2, 1, 0, 5] 5 #[.int .u8 0, .int .u8 2, .int .u8 1, .int .u8 0, .int .u8 5] rfl rfl (by decide) (by decide)
theorem read_at {W0 w : World} {g : Nat} {l : List Int} {bad : Bool} {er : Int} {out : List S44} {l2 : List Int} {b2 : Bool} (h : RS W0 w g l bad) (hv : readF validS l bad = (er, out, l2, b2)) :
    Calls Try.prog 15 #[.pointer (some ⟨g, 0, none⟩)] w fun e w' => ∃ A c, e = .returned (.tuple #[.slice A out.length c, .int .i64 er]) ∧ out.length ≤ c ∧ Kd.C k44 w' A out.length out ∧ RS W0 w' g l2 b2 ∧ w.grownBy w' (some g) := by
  refine (read_calls (vv := validS) h valid_all).mono ?_
  rintro e w' ⟨v, rfl, h1, h2, h3⟩
  rw [hv] at h1 h2 ⊢
  obtain ⟨A, c, rfl⟩ := Kd.R_slice h1
  have h4 := Kd.R_reads' h1
  exact ⟨A, c, rfl, h4.2.1, h4.2.2, h2, h3⟩
theorem below_lit {w w2 : World} {o : Obj} (h : Below (w.alloc o).heap.size (w.alloc o) w2) : Below w.heap.size w w2 := below_step ((Below.refl _ _).alloc (Nat.le_refl _) o) h
set_option maxHeartbeats 8000000 in
set_option maxRecDepth 100000 in
theorem holds_calls (w : World) : Calls Try.prog 8 #[] w fun e w' => e = .returned (.bool true) ∧ Below w.heap.size w w' := by
  have HB := Aside0.mk (Below.refl w.heap.size w)
  go_enter Try.func8, Try.ntmps8
  go_wp2_with (first | (go_at_call 9; (with_reducible refine from_ex1.mono ?_); rintro e w1 ⟨g1, rfl, hr1⟩; have HR1 := Aside0.mk hr1; clear hr1) | (go_at_call 15; (with_reducible refine (read_at HR1.out ex1).mono ?_); rintro e w2 ⟨A1, c1, rfl, hc1, hC1, hr2, _⟩; have HB2 := Aside0.mk (below_step HB.out (below_lit hr2.bel)); have HC1 := Aside0.mk hC1; clear hr2 hC1 HR1 hc1) | (go_at_call 9; (with_reducible refine from_ex2.mono ?_); rintro e w1 ⟨g1, rfl, hr1⟩; have HR1 := Aside0.mk hr1; clear hr1) | (go_at_call 15; (with_reducible refine (read_at HR1.out ex2).mono ?_); rintro e w2 ⟨A2, c2, rfl, _, _, hr2, _⟩; have HB3 := Aside0.mk (below_step HB2.out (below_lit hr2.bel)); obtain ⟨ad, rfl, y0, y1, y2, y3, y4⟩ := at_T44 (Kd.C_below HC1.out (below_lit hr2.bel)) 1 (by decide) (by decide); have z0 : w2.cell? ⟨ad.block, ad.off + 5, none⟩ = some (.int .i64 1) := y0; have z1 : w2.cell? ⟨ad.block, ad.off + 5 + 1, none⟩ = some (.int .i64 0) := y1; have z2 : w2.cell? ⟨ad.block, ad.off + 5 + 2, none⟩ = some (.string ⟨#[65]⟩) := y2; have z3 : w2.cell? ⟨ad.block, ad.off + 5 + 3, none⟩ = some (.string ⟨#[]⟩) := y3; have z4 : w2.cell? ⟨ad.block, ad.off + 5 + 4, none⟩ = some (.string ⟨#[]⟩) := y4; clear hr2 HR1 HC1 HB2 y0 y1 y2 y3 y4))
  (try go_ret)
  exact ⟨rfl, HB3.out⟩
end Go.Proofs.Ytedmhopginmjaaa.PAll
