import Derived.Test.YtibhjlmffgabgaaZAbs
namespace Go.Proofs.Ytibhjlmffgabgaa.PAll
open Go.RowKit Go.Proofs.YtibhjlmffgabgaaW.PrintWords Go.Proofs.YtibhjlmffgabgaaW.PrintLast Go.Proofs.YtibhjlmffgabgaaW.PrintMore
open Go.Proofs.Ytibhjlmffgabgaa.MapInt
set_option linter.unusedVariables false
set_option linter.unusedSimpArgs false
def posF (O : List Int) (x : Int) : Option Int := if x ∈ O then some ((O.idxOf x : Nat) + 1 : Int) else none
theorem posF_snoc {O : List Int} {x : Int} (h : x ∉ O) (k : Int) : posF (O ++ [x]) k = upd (posF O) x ((O.length : Int) + 1) k := by
  simp only [upd, posF]
  by_cases e : k = x
  · subst e
    rw [if_pos rfl, if_pos (by simp), List.idxOf_append, if_neg h]
    simp
  · rw [if_neg e]
    by_cases hk : k ∈ O
    · rw [if_pos hk, if_pos (by simp [hk]), List.idxOf_append, if_pos hk]
    · rw [if_neg hk, if_neg (by simp [hk, e])]
structure GK (W w : World) (g b3 b10 b11 bm : Nat) (v : Value) (O : List Int) : Prop where
  bel : Below W.heap.size W w
  k3 : Blk w b3 23 #[.pointer (some ⟨g, 0, none⟩)]
  k10 : Blk w b10 68 #[.map (some bm)]
  k11 : Blk w b11 30 #[v]
  map : IM Try.prog w bm O.length (posF O)
  own : w.ownsRow W.heap.size 3 1 v O.length (nums .i64 O)
  g11 : W.heap.size ≤ b11
  gm : W.heap.size ≤ bm
section
variable {W w w2 w3 : World} {g b3 b10 b11 bm : Nat} {v v2 : Value} {O : List Int}
theorem GK.below (h : GK W w g b3 b10 b11 bm v O) (hb : Below w.heap.size w w2) : GK W w2 g b3 b10 b11 bm v O :=
  ⟨below_step h.bel hb, h.k3.below hb, h.k10.below hb, h.k11.below hb, h.map.below hb, own_below h.own hb, h.g11, h.gm⟩
structure GP (W w : World) (g b3 b10 b11 bm : Nat) (v : Value) (O : List Int) (x : Int) : Prop where
  bel : Below W.heap.size W w
  k3 : Blk w b3 23 #[.pointer (some ⟨g, 0, none⟩)]
  k10 : Blk w b10 68 #[.map (some bm)]
  k11 : Blk w b11 30 #[v]
  map : IM Try.prog w bm O.length (posF O)
  own : w.ownsRow W.heap.size 3 1 v (O.length + 1) (nums .i64 (O ++ [x]))
  g11 : W.heap.size ≤ b11
  gm : W.heap.size ≤ bm
theorem GK.pushed {x : Int} {o : Obj} {cs : List Value} (h : GK W w g b3 b10 b11 bm v O) (hc : cs = [.int .i64 x]) (ho : w2.ownsRow W.heap.size 3 1 v2 (O.length + 1) (nums .i64 O ++ cs)) (hg : (w.alloc o).grownBy w2 v.ownBlock) (hb : Blk w3 b11 30 #[v2]) (hg2 : w2.grownBy w3 (some b11)) : GP W w3 g b3 b10 b11 bm v2 O x := by
  subst hc
  have ha := h.below ((Below.refl _ _).alloc (Nat.le_refl _) o)
  have r2 : Blk w2 b3 23 _ := ha.k3.kept hg (own_ne_cells h.own h.k3 (by decide))
  have r5 : Blk w2 b10 68 _ := ha.k10.kept hg (own_ne_cells h.own h.k10 (by decide))
  have r6 : Blk w2 b11 30 _ := ha.k11.kept hg (own_ne_cells h.own h.k11 (by decide))
  have rm : IM Try.prog w2 bm O.length (posF O) := ha.map.kept hg (fun e => by
    obtain ⟨_, _, c, hc⟩ := own_block ha.own e.symm
    exact ha.map.ne_cells hc rfl)
  refine ⟨(ha.bel.grown hg ha.bel.size (fun k hk => (own_row_lt h.own k hk).2)).grown hg2 ?_ (fun k hk => by cases hk; exact h.g11), r2.kept hg2 (fun e => by injection e with e; exact r2.ne_type r6 (by decide) e), r5.kept hg2 (fun e => by injection e with e; exact r5.ne_type r6 (by decide) e), hb, rm.kept hg2 (fun e => by injection e with e; exact rm.ne_cells r6 e), ?_, h.g11, h.gm⟩
  · exact Nat.le_trans ha.bel.size hg.size
  · rw [nums_append]
    exact own_kept ho hg2 (fun k hk e => own_ne_cells ho r6 (by decide) (e.symm.trans hk.symm))
theorem GP.mapped {x : Int} (h : GP W w g b3 b10 b11 bm v O x) (hx : x ∉ O) (hm : IM Try.prog w2 bm (O.length + 1) (upd (posF O) x ((O.length : Int) + 1))) (hg : w.grownBy w2 (some bm)) : GK W w2 g b3 b10 b11 bm v (O ++ [x]) :=
  ⟨h.bel.grown hg h.bel.size (fun k hk => by cases hk; exact h.gm), h.k3.kept hg (fun e => by injection e with e; exact h.map.ne_cells h.k3 e.symm), h.k10.kept hg (fun e => by injection e with e; exact h.map.ne_cells h.k10 e.symm), h.k11.kept hg (fun e => by injection e with e; exact h.map.ne_cells h.k11 e.symm), by rw [List.length_append]; exact hm.ext (fun k _ => posF_snoc hx k),
   by rw [List.length_append]; exact own_kept h.own hg (fun k hk e => by
    injection e with e
    subst e
    obtain ⟨_, _, c, hc⟩ := own_block h.own hk
    exact h.map.ne_cells hc rfl), h.g11, h.gm⟩
theorem GK.box1 {o : Obj} (h : GK W w g b3 b10 b11 bm v O) (hg : (w.alloc o).grownBy w2 v.ownBlock) : Blk w2 b11 30 #[v] := (h.k11.alloc o).kept hg (own_ne_cells h.own h.k11 (by decide))
end
theorem keep_imap {w w2 : World} {bm n : Nat} {f : Int → Option Int} (h : IM Try.prog w bm n f) (hg : w.grownBy w2 (some bm)) : Keep3 w w2 := Keep3.of_grown hg (fun k cs e z hk hc => by cases hk; exact absurd rfl (h.ne_cells hc))
def isT (shs : List S65) (T : List Thg) (x : Int) : Bool := (findT shs T 1 x).isSome
def vQ (shs : List S65) (T : List Thg) (O : List Int) (x : Int) : List Int := if isT shs T x = true ∧ x ∉ O then O ++ [x] else O
def vR (shs : List S65) (T : List Thg) (O : List Int) (x : Int) : Int := if isT shs T x = true then (((vQ shs T O x).idxOf x : Nat) : Int) + 1 else 0
theorem upd_self (f : Int → Option Int) (x v : Int) : (upd f x v x).getD 0 = v := by unfold upd; rw [if_pos rfl]; rfl
set_option maxHeartbeats 8000000 in
set_option maxRecDepth 100000 in
theorem gvisit_calls {W w : World} {g most : Nat} {P : Nat → Prop} {shs : List S65} {T : List Thg} {mv : Int} {b3 b10 b11 bm : Nat} {v : Value} {O : List Int} (hA : AZ W P g most shs T mv) (h : GK W w g b3 b10 b11 bm v O) (hO : O.length ≤ 1000000) (x : Int) (hx : inR x) :
    Calls Try.prog 40 #[.int .i64 x, .pointer (some ⟨b3, 0, none⟩), .pointer (some ⟨b10, 0, none⟩), .pointer (some ⟨b11, 0, none⟩)] w fun e w' => e = .returned (.int .i64 (vR shs T O x)) ∧ ∃ v', GK W w' g b3 b10 b11 bm v' (vQ shs T O x) ∧ Keep3 w w' := by
  have HI := Aside0.mk (shape_az (hA.below h.bel) x)
  have HM := Aside0.mk h
  have x3 := h.k3.cell (o := 0) (v := .pointer (some ⟨g, 0, none⟩)) rfl
  have hz3 := zi3
  unfold vR vQ isT
  cases hf : findT shs T 1 x with
  | none =>
    rw [hf] at HI
    rw [if_neg (by simp), if_neg (by simp)]
    clear hA h hf hz3
    go_enter Try.func40, Try.ntmps40
    go_wp2_with (first | (go_at_call 21; (with_reducible refine (HI.out).mono ?_); rintro e w1 ⟨rfl, hb⟩; have HM1 := Aside0.mk (HM.out.below hb); have HK1 := Aside0.mk (Keep3.of_below hb); clear hb x3))
    (try go_ret)
    exact ⟨rfl, v, HM1.out, HK1.out⟩
  | some t =>
    rw [hf] at HI
    have hs0 : ¬ ((t.s : Int) < 0) := by omega
    by_cases hxO : x ∈ O
    · rw [if_pos (by simp), if_neg (by simp [hxO])]
      have hp : posF O x = some (((O.idxOf x : Nat) : Int) + 1) := by unfold posF; rw [if_pos hxO]
      have HP1 : (posF O x).isSome = true := by rw [hp]; rfl
      have HP2 : (posF O x).getD 0 = ((O.idxOf x : Nat) : Int) + 1 := by rw [hp]; rfl
      have HP := Aside0.mk (And.intro HP1 HP2)
      clear hA h hf hxO hp HP1 HP2
      go_enter Try.func40, Try.ntmps40
      go_wp2_with (first | (go_at_call 21; (with_reducible refine (HI.out).mono ?_); rintro e w1 ⟨rfl, hb⟩; have HM1 := Aside0.mk (HM.out.below hb); have HK1 := Aside0.mk (Keep3.of_below hb); have x10 := HM1.out.k10.cell (o := 0) (v := .map (some bm)) rfl; clear hb x3) | ((with_reducible refine gate_dst (N := 15) rfl ?_); refine MapInt.lookv_ok' Try.underlying3 rfl (.tmp 13) (.tmp 14) 68 rfl Try.underlying68 (hz3 _) rfl HM1.out.map rfl hx HP.out.2 HP.out.1 ?_) | ((with_reducible refine gate_dst (N := 30) rfl ?_); refine MapInt.lookv Try.underlying3 rfl (.tmp 28) (.tmp 29) 68 rfl Try.underlying68 (hz3 _) rfl HM1.out.map rfl hx HP.out.2 ?_))
      (try go_ret)
      exact ⟨rfl, v, HM1.out, HK1.out⟩
    · rw [if_pos (by simp), if_pos (by simp [hxO])]
      have hp : posF O x = none := by unfold posF; rw [if_neg hxO]
      have HP1 : (posF O x).isSome = false := by rw [hp]; rfl
      have HP2 : (posF O x).getD 0 = 0 := by rw [hp]; rfl
      have HP := Aside0.mk (And.intro HP1 HP2)
      have HU := Aside0.mk (upd_self (posF O) x ((O.length : Int) + 1))
      have HX := Aside0.mk hxO
      have HIX : Aside0 (((((O ++ [x]).idxOf x : Nat)) : Int) + 1 = (O.length : Int) + 1) := ⟨by rw [List.idxOf_append, if_neg hxO]; simp⟩
      have hOR : inR ((O.length : Int) + 1) := ⟨by omega, by omega⟩
      rw [HIX.out]
      clear hA h hf hxO hp HP1 HP2
      go_enter Try.func40, Try.ntmps40
      go_wp2_with (first | (go_at_call 21; (with_reducible refine (HI.out).mono ?_); rintro e w1 ⟨rfl, hb⟩; have HM1 := Aside0.mk (HM.out.below hb); have HK1 := Aside0.mk (Keep3.of_below hb); have x10 := HM1.out.k10.cell (o := 0) (v := .map (some bm)) rfl; clear hb x3) | ((with_reducible refine gate_dst (N := 15) rfl ?_); refine MapInt.lookv_ok' Try.underlying3 rfl (.tmp 13) (.tmp 14) 68 rfl Try.underlying68 (hz3 _) rfl HM1.out.map rfl hx HP.out.2 HP.out.1 ?_; clear x10; have x11 := HM1.out.k11.cell (o := 0) (v := v) rfl) | ((with_reducible refine gate_dst (N := 23) rfl ?_); at_builtin; (refine app_new rfl (.tmp 20) (.tmp 22) 30 3 (.int .i64 0) 1 8 rfl Try.underlying30 info3d rfl (by decide) rfl HM1.out.own _ 1 rfl rfl (fun u hu => by simp at hu; subst hu; rfl) (by omega) (by omega) HM1.out.bel.size ?_; intro v2 w4 ho hg; obtain ⟨A2, c2, rfl⟩ := own_slice' ho; have HOW := Aside0.mk ho; have HG := Aside0.mk hg; have HK4 := Aside0.mk (HK1.out.trans (keep_row HM1.out.own hg)); clear ho hg x11)) | ((with_reducible refine gate_store (t := 30) (p := 3) (v := .tmp 23) rfl ?_); refine cell_store rfl 30 (.tmp 3) (.tmp 23) rfl oi30 (q := 0) (v := .slice A2 (O.length + 1) c2) rfl rfl rfl (HM1.out.box1 HG.out) (show (0 : Nat) < 1 by decide) ?_; intro w5 hb5 hg5 hz5; clear hz5; have HK5 := Aside0.mk (HK4.out.trans (keep_box (HM1.out.box1 HG.out) hg5)); have HM5 := Aside0.mk (HM1.out.pushed (x := x) rfl HOW.out HG.out hb5 hg5); clear hb5 hg5; have x10 := HM5.out.k10.cell (o := 0) (v := .map (some bm)) rfl; have x11 := HM5.out.k11.cell (o := 0) (v := .slice A2 (O.length + 1) c2) rfl) | (at_mapUpdate; refine MapInt.store Try.underlying3 rfl (.tmp 24) (.tmp 25) (.tmp 27) 68 rfl Try.underlying68 rfl HM5.out.map (by omega) rfl rfl hx hOR ?_; intro w6 hm6 hg6 hz6; clear hz6 x10 x11; have HM6 := Aside0.mk (HM5.out.mapped HX.out hm6 hg6); have HMI := Aside0.mk hm6; have HK6 := Aside0.mk (HK5.out.trans (keep_imap HM5.out.map hg6)); have x10 := HM6.out.k10.cell (o := 0) (v := .map (some bm)) rfl; clear hm6 hg6) | ((with_reducible refine gate_dst (N := 30) rfl ?_); refine MapInt.lookv Try.underlying3 rfl (.tmp 28) (.tmp 29) 68 rfl Try.underlying68 (hz3 _) rfl HMI.out rfl hx HU.out ?_))
      (try go_ret)
      exact ⟨rfl, ⟨_, HM6.out⟩, HK6.out⟩
end Go.Proofs.Ytibhjlmffgabgaa.PAll
