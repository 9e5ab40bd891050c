import Derived.Test.YtibhjlmffgabgaaZMake
import Derived.Test.YtibhjlmffgabgaaZMapBool
namespace Go.Proofs.Ytibhjlmffgabgaa.PAll
open Go.RowKit Go.Proofs.YtibhjlmffgabgaaW.PrintWords Go.Proofs.YtibhjlmffgabgaaW.PrintLast Go.Proofs.YtibhjlmffgabgaaW.PrintMore
open Go.Proofs.Ytibhjlmffgabgaa.MapInt
set_option linter.unusedVariables false
set_option linter.unusedSimpArgs false
theorem oi30 : (Try.prog.info? 30).map (·.size) = some 1 := by kernel_rfl
theorem zb4 (w : World) : (zeroValue 4).run Try.prog w = .ok (.bool false) w := by
  have hi := info4z
  cases hp : Try.prog.info? 4 with
  | none => simp [hp] at hi
  | some i =>
    have hiz : i.zero = some (.bool false) := by simpa [hp] using hi
    simp [zeroValue, typeInfo, hp, hiz, Result.andThen]
theorem info3d : (Try.prog.info? 3).map (fun i => (i.zero, i.size, i.bytes)) = some (some (.int .i64 0), 1, 8) := by kernel_rfl
structure MK (W w : World) (g b2 b5 b6 bm : Nat) (S : Int → Bool) (n : Nat) (v : Value) (O : List Int) : Prop where
  bel : Below W.heap.size W w
  k2 : Blk w b2 23 #[.pointer (some ⟨g, 0, none⟩)]
  k5 : Blk w b5 66 #[.map (some bm)]
  k6 : Blk w b6 30 #[v]
  map : BM Try.prog w bm n S
  own : w.ownsRow W.heap.size 3 1 v O.length (nums .i64 O)
  g6 : W.heap.size ≤ b6
  gm : W.heap.size ≤ bm
section
variable {W w w2 w3 : World} {g b2 b5 b6 bm n : Nat} {S : Int → Bool} {v v2 : Value} {O : List Int}
theorem MK.below (h : MK W w g b2 b5 b6 bm S n v O) (hb : Below w.heap.size w w2) : MK W w2 g b2 b5 b6 bm S n v O :=
  ⟨below_step h.bel hb, h.k2.below hb, h.k5.below hb, h.k6.below hb, h.map.below hb, own_below h.own hb, h.g6, h.gm⟩
theorem MK.mapped {x : Int} (h : MK W w g b2 b5 b6 bm S n v O) (hm : BM Try.prog w2 bm (n + 1) (ins S x)) (hg : w.grownBy w2 (some bm)) : MK W w2 g b2 b5 b6 bm (ins S x) (n + 1) v O :=
  ⟨h.bel.grown hg h.bel.size (fun k hk => by cases hk; exact h.gm), h.k2.kept hg (fun e => by injection e with e; exact h.map.ne_cells h.k2 e.symm), h.k5.kept hg (fun e => by injection e with e; exact h.map.ne_cells h.k5 e.symm), h.k6.kept hg (fun e => by injection e with e; exact h.map.ne_cells h.k6 e.symm), hm,
   own_kept h.own hg (fun k hk e => by
    injection e with e
    subst e
    obtain ⟨_, _, c, hc⟩ := own_block h.own hk
    exact h.map.ne_cells hc rfl), h.g6, h.gm⟩
theorem MK.pushed {x : Int} {o : Obj} {cs : List Value} (h : MK W w g b2 b5 b6 bm S n v O) (hc : cs = [.int .i64 x]) (ho : w2.ownsRow W.heap.size 3 1 v2 (O.length + 1) (nums .i64 O ++ cs)) (hg : (w.alloc o).grownBy w2 v.ownBlock) (hb : Blk w3 b6 30 #[v2]) (hg2 : w2.grownBy w3 (some b6)) : MK W w3 g b2 b5 b6 bm S n v2 (O ++ [x]) := by
  subst hc
  have ha := h.below ((Below.refl _ _).alloc (Nat.le_refl _) o)
  have r2 : Blk w2 b2 23 _ := ha.k2.kept hg (own_ne_cells h.own h.k2 (by decide))
  have r5 : Blk w2 b5 66 _ := ha.k5.kept hg (own_ne_cells h.own h.k5 (by decide))
  have r6 : Blk w2 b6 30 _ := ha.k6.kept hg (own_ne_cells h.own h.k6 (by decide))
  have rm : BM Try.prog w2 bm n S := ha.map.kept hg (fun e => by
    obtain ⟨_, _, c, hc⟩ := own_block ha.own e.symm
    exact ha.map.ne_cells hc rfl)
  refine ⟨(ha.bel.grown hg ha.bel.size (fun k hk => (own_row_lt h.own k hk).2)).grown hg2 ?_ (fun k hk => by cases hk; exact h.g6), r2.kept hg2 (fun e => by injection e with e; exact r2.ne_type r6 (by decide) e), r5.kept hg2 (fun e => by injection e with e; exact r5.ne_type r6 (by decide) e), hb, rm.kept hg2 (fun e => by injection e with e; exact rm.ne_cells r6 e), ?_, h.g6, h.gm⟩
  · exact Nat.le_trans ha.bel.size hg.size
  · rw [List.length_append, nums_append]
    exact own_kept ho hg2 (fun k hk e => own_ne_cells ho r6 (by decide) (e.symm.trans hk.symm))
theorem MK.box1 {o : Obj} (h : MK W w g b2 b5 b6 bm S n v O) (hg : (w.alloc o).grownBy w2 v.ownBlock) : Blk w2 b6 30 #[v] := (h.k6.alloc o).kept hg (own_ne_cells h.own h.k6 (by decide))
end
def Keep3 (w w' : World) : Prop := ∀ (k : Nat) (cs : Array Value) (e : Nat) (z : Nat × Nat), w.heap[k]? = some (Obj.cells cs e z) → e ≠ 30 → e ≠ 3 → w'.heap[k]? = some (Obj.cells cs e z)
theorem Keep3.of_below {w w' : World} (h : Below w.heap.size w w') : Keep3 w w' := fun k cs e z hk _ _ => by
  have hlt : k < w.heap.size := by
    rcases Nat.lt_or_ge k w.heap.size with h1 | h1
    · exact h1
    · rw [Array.getElem?_eq_none h1] at hk; cases hk
  rw [h.block k hlt]; exact hk
theorem Keep3.trans {w w1 w2 : World} (h : Keep3 w w1) (k : Keep3 w1 w2) : Keep3 w w2 := fun i cs e z hi h30 h3 => k i cs e z (h i cs e z hi h30 h3) h30 h3
theorem Keep3.of_grown {w w' : World} {row : Option Nat} (h : w.grownBy w' row) (hr : ∀ (k : Nat) (cs : Array Value) (e : Nat) (z : Nat × Nat), row = some k → w.heap[k]? = some (Obj.cells cs e z) → e = 30 ∨ e = 3) : Keep3 w w' := fun k cs e z hk h30 h3 => by
  have hlt : k < w.heap.size := by
    rcases Nat.lt_or_ge k w.heap.size with h1 | h1
    · exact h1
    · rw [Array.getElem?_eq_none h1] at hk; cases hk
  rw [h.block k hlt (fun e1 => by
    rcases hr k cs e z e1.symm hk with h1 | h1
    · exact h30 h1
    · exact h3 h1)]
  exact hk
theorem keep_map {w w2 : World} {bm n : Nat} {S : Int → Bool} (h : BM Try.prog w bm n S) (hg : w.grownBy w2 (some bm)) : Keep3 w w2 := Keep3.of_grown hg (fun k cs e z hk hc => by cases hk; exact absurd rfl (h.ne_cells hc))
theorem keep_row {W w w2 : World} {o : Obj} {v : Value} {O : List Int} (h : w.ownsRow W.heap.size 3 1 v O.length (nums .i64 O)) (hg : (w.alloc o).grownBy w2 v.ownBlock) : Keep3 w w2 :=
  (Keep3.of_below ((Below.refl _ _).alloc (Nat.le_refl _) o)).trans (Keep3.of_grown hg (fun k cs e z hk hc => by
    obtain ⟨_, _, c, hc2⟩ := own_block (own_alloc' h o) hk
    rw [hc2] at hc
    injection hc with hc; injection hc with _ hc _; exact .inr hc.symm))
theorem keep_box {w w2 : World} {b6 : Nat} {v : Value} (h : Blk w b6 30 #[v]) (hg : w.grownBy w2 (some b6)) : Keep3 w w2 := Keep3.of_grown hg (fun k cs e z hk hc => by
  cases hk
  unfold Blk at h
  rw [h] at hc
  injection hc with hc; injection hc with _ hc _; exact .inl hc.symm)
def visS (shs : List S65) (T : List Thg) (S : Int → Bool) (x : Int) : Int → Bool := if (findT shs T 1 x).isSome = true ∧ S x = false then ins S x else S
def visN (shs : List S65) (T : List Thg) (S : Int → Bool) (n : Nat) (x : Int) : Nat := if (findT shs T 1 x).isSome = true ∧ S x = false then n + 1 else n
def visO (shs : List S65) (T : List Thg) (S : Int → Bool) (O : List Int) (x : Int) : List Int := if (findT shs T 1 x).isSome = true ∧ S x = false then O ++ [x] else O
set_option maxHeartbeats 8000000 in
set_option maxRecDepth 100000 in
theorem visit_calls {W w : World} {base g most : Nat} {P : Nat → Prop} {shs : List S65} {T : List Thg} {mv : Int} {b2 b5 b6 bm n : Nat} {S : Int → Bool} {v : Value} {O : List Int} (hA : AS W base P g most shs T mv) (h : MK W w g b2 b5 b6 bm S n v O) (hn : n < 9223372036854775807) (hO : O.length ≤ 1000000) (x : Int) (hx : inR x) :
    Calls Try.prog 47 #[.int .i64 x, .pointer (some ⟨b2, 0, none⟩), .pointer (some ⟨b5, 0, none⟩), .pointer (some ⟨b6, 0, none⟩)] w fun e w' => e = .returned (.tuple #[]) ∧ ∃ v', MK W w' g b2 b5 b6 bm (visS shs T S x) (visN shs T S n x) v' (visO shs T S O x) ∧ Keep3 w w' := by
  have HI := Aside0.mk (ins_calls (hA.below h.bel) x)
  have HM := Aside0.mk h
  unfold visS visO visN
  generalize (findT shs T 1 x).isSome = b at *
  have x2 := h.k2.cell (o := 0) (v := .pointer (some ⟨g, 0, none⟩)) rfl
  clear hA h
  cases b with
  | false =>
    rw [if_neg (by simp), if_neg (by simp), if_neg (by simp)]
    go_enter Try.func47, Try.ntmps47
    go_wp2_with (first | (go_at_call 41; (with_reducible refine (HI.out).mono ?_); rintro e w1 ⟨rfl, hb⟩; have HM1 := Aside0.mk (HM.out.below hb); have HK1 := Aside0.mk (Keep3.of_below hb); clear hb x2))
    have h9 := HM1.out
    refine bodyPost_end (results_none (by rfl) _ _ _) (by rfl) ?_
    exact ⟨rfl, v, ⟨h9.bel, h9.k2, h9.k5, h9.k6, h9.map, h9.own, h9.g6, h9.gm⟩, HK1.out⟩
  | true =>
    cases hS : S x with
    | true =>
      rw [if_neg (by simp), if_neg (by simp), if_neg (by simp)]
      go_enter Try.func47, Try.ntmps47
      go_wp2_with (first | (go_at_call 41; (with_reducible refine (HI.out).mono ?_); rintro e w1 ⟨rfl, hb⟩; have HM1 := Aside0.mk (HM.out.below hb); have HK1 := Aside0.mk (Keep3.of_below hb); have x5 := HM1.out.k5.cell (o := 0) (v := .map (some bm)) rfl; clear hb x2) | ((try (refine gate_guard (by rfl) ?_; dsimp only)); (with_reducible refine gate_dst (N := 11) rfl ?_); refine blook Try.underlying3 Try.underlying4 rfl (.tmp 9) (.tmp 10) 66 rfl Try.underlying66 (zb4 _) rfl HM1.out.map rfl hx hS ?_))
      have h9 := HM1.out
      refine bodyPost_end (results_none (by rfl) _ _ _) (by rfl) ?_
      exact ⟨rfl, v, ⟨h9.bel, h9.k2, h9.k5, h9.k6, h9.map, h9.own, h9.g6, h9.gm⟩, HK1.out⟩
    | false =>
      rw [if_pos (by simp), if_pos (by simp), if_pos (by simp)]
      go_enter Try.func47, Try.ntmps47
      go_wp2_with (first | (go_at_call 41; (with_reducible refine (HI.out).mono ?_); rintro e w1 ⟨rfl, hb⟩; have HM1 := Aside0.mk (HM.out.below hb); have HK1 := Aside0.mk (Keep3.of_below hb); have x5 := HM1.out.k5.cell (o := 0) (v := .map (some bm)) rfl; clear hb x2) | ((try (refine gate_guard (by rfl) ?_; dsimp only)); (with_reducible refine gate_dst (N := 11) rfl ?_); refine blook Try.underlying3 Try.underlying4 rfl (.tmp 9) (.tmp 10) 66 rfl Try.underlying66 (zb4 _) rfl HM1.out.map rfl hx hS ?_) | (at_mapUpdate; refine bstore Try.underlying3 Try.underlying4 rfl (.tmp 14) (.tmp 15) _ 66 rfl Try.underlying66 rfl HM1.out.map hn rfl rfl hx ?_; intro w2 hm2 hg2 hz2; clear hz2; have HM2 := Aside0.mk (HM1.out.mapped hm2 hg2); have HK2 := Aside0.mk (HK1.out.trans (keep_map HM1.out.map hg2)); have x6 := HM2.out.k6.cell (o := 0) (v := v) rfl; clear hm2 hg2 x5) | ((with_reducible refine gate_dst (N := 19) rfl ?_); at_builtin; (refine app_new rfl (.tmp 16) (.tmp 18) 30 3 (.int .i64 0) 1 8 rfl Try.underlying30 info3d rfl (by decide) rfl HM2.out.own _ 1 rfl rfl (fun u hu => by simp at hu; subst hu; rfl) (by omega) (by omega) HM2.out.bel.size ?_; intro v2 w4 ho hg; obtain ⟨A2, c2, rfl⟩ := own_slice' ho; have HOW := Aside0.mk ho; have HG := Aside0.mk hg; have HK4 := Aside0.mk (HK2.out.trans (keep_row HM2.out.own hg)); clear ho hg x6)) | ((with_reducible refine gate_store (t := 30) (p := 3) (v := .tmp 19) rfl ?_); refine cell_store rfl 30 (.tmp 3) (.tmp 19) rfl oi30 (q := 0) (v := .slice A2 (O.length + 1) c2) rfl rfl rfl (HM2.out.box1 HG.out) (show (0 : Nat) < 1 by decide) ?_; intro w5 hb5 hg5 hz5; clear hz5; have HK5 := Aside0.mk (HK4.out.trans (keep_box (HM2.out.box1 HG.out) hg5)); have HM5 := Aside0.mk (HM2.out.pushed (x := x) rfl HOW.out HG.out hb5 hg5); clear hb5 hg5))
      refine bodyPost_end (results_none (by rfl) _ _ _) (by rfl) ?_
      first | exact ⟨rfl, _, HM5.out, HK5.out⟩ | exact ⟨rfl, ⟨_, HM5.out⟩, HK5.out⟩
end Go.Proofs.Ytibhjlmffgabgaa.PAll
