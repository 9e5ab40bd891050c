/-
  The bundle of the laws that lay places; what the moves of Order do, told of lists.
-/
import Derived.Test.YtjolnfhgiddafaaPlacesSet
import Derived.Test.YtjolnfhgiddafaaWalkPlain
namespace Go.Proofs.Ytjolnfhgiddafaa.PAll
open Go.RowKit Go.Proofs.YtjolnfhgiddafaaW.PrintWords Go.Proofs.YtjolnfhgiddafaaW.PrintLast Go.Proofs.YtjolnfhgiddafaaW.PrintMore
open Go.Proofs.Ytjolnfhgiddafaa.MapInt Go.Proofs.Ytjolnfhgiddafaa.Moves
set_option linter.unusedVariables false
set_option linter.unusedSimpArgs false
theorem PL.start (W : World) : PL W (W.alloc (.cells #[.slice none 0 0, .slice none 0 0] 33)) W.heap.size (.slice none 0 0) (.slice none 0 0) [] [] :=
  ⟨(Below.refl _ _).alloc (Nat.le_refl _) _, Nat.le_refl _, Blk.made _ _ _, World.ownsRow_nil _ _ _ _, World.ownsRow_nil _ _ _ _, (fun k hk => by cases hk), rfl⟩
section
variable {W0 w w2 : World} {b m n : Nat} {vA vH : Value} {ats hs : List Int} {f f' : Int → Option Int}
theorem PL.below (h : PL W0 w b vA vH ats hs) (hb : Below w.heap.size w w2) : PL W0 w2 b vA vH ats hs :=
  ⟨below_step h.bel hb, h.lb, h.hB.below hb, MapInt.own_below h.rA hb, MapInt.own_below h.rH hb, h.ne, h.len⟩
theorem PL.alloc (h : PL W0 w b vA vH ats hs) (o : Obj) : PL W0 (w.alloc o) b vA vH ats hs := h.below ((Below.refl _ _).alloc (Nat.le_refl _) o)
theorem PL.drewN (h : PL W0 w b vA vH ats hs) (k : Nat) : PL W0 (w.drewN k) b vA vH ats hs := h.below (pw_below_drewN (Below.refl _ _) k)
theorem PL.step (h : PL W0 w b vA vH ats hs) (o : Obj) : PL W0 (w.alloc o).drew b vA vH ats hs := (h.alloc o).drewN 1
structure DoS (W0 w : World) (b m : Nat) (vA vH : Value) (ats hs : List Int) (n : Nat) (f : Int → Option Int) : Prop where
  pl : PL W0 w b vA vH ats hs
  im : IM Try.prog w m n f
  lm : W0.heap.size ≤ m
theorem DoS.below (h : DoS W0 w b m vA vH ats hs n f) (hb : Below w.heap.size w w2) : DoS W0 w2 b m vA vH ats hs n f := ⟨h.pl.below hb, h.im.below hb, h.lm⟩
theorem DoS.alloc (h : DoS W0 w b m vA vH ats hs n f) (o : Obj) : DoS W0 (w.alloc o) b m vA vH ats hs n f := h.below ((Below.refl _ _).alloc (Nat.le_refl _) o)
theorem DoS.drewN (h : DoS W0 w b m vA vH ats hs n f) (k : Nat) : DoS W0 (w.drewN k) b m vA vH ats hs n f := h.below (pw_below_drewN (Below.refl _ _) k)
theorem DoS.stored (h : DoS W0 w b m vA vH ats hs n f) (hm : IM Try.prog w2 m (n + 1) f') (hg : w.grownBy w2 (some m)) : DoS W0 w2 b m vA vH ats hs (n + 1) f' := by
  obtain ⟨es, c, hmap⟩ := h.im.isMap
  exact ⟨⟨h.pl.bel.grown hg h.pl.bel.size (fun k hk => by cases hk; exact h.lm), h.pl.lb, h.pl.hB.kept hg (fun e => by injection e with e; exact h.pl.hB.ne_map hmap e), own_kept h.pl.rA hg (own_apart_obj h.pl.rA hmap (fun _ e => by cases e)), own_kept h.pl.rH hg (own_apart_obj h.pl.rH hmap (fun _ e => by cases e)), h.pl.ne, h.pl.len⟩, hm, h.lm⟩
end
theorem get_quiet (W0 w : World) (b : Nat) (vA vH : Value) (ats hs : List Int) (x v : Int) (h : PL W0 w b vA vH ats hs) (hs9 : ats.length ≤ 1000000) (hv : tellP ats hs x = v) :
    Calls Try.prog 13 #[.pointer (some ⟨b, 0, none⟩), .int .i64 x] w fun e w' => e = .returned (.int .i64 v) ∧ w' = w := by
  subst hv; exact get_calls W0 w b vA vH ats hs x h hs9
theorem C_cell {w : World} {ad : Addr} {k : Nat} {l : List Int} (h : Kd.C (Kd.int .i64) w (some ad) k l) (i : Nat) (hi : i < k) : w.cell? (ad.add i) = some (.int .i64 (rd l i)) := by
  obtain ⟨ad', e, hc⟩ := Kd.at_int h (i : Int) (by omega) (by omega)
  injection e with e; subst e
  rw [Int.toNat_natCast] at hc
  exact hc
theorem im_run {w : World} {m n : Nat} {f : Int → Option Int} (h : IM Try.prog w m n f) {x d : Int} (hx : inR x) (hd : (f x).getD 0 = d) :
    Sem.run Try.prog (Instr.lookup 38 (.map (some m)) (.int .i64 x) false) w = .ok (.int .i64 d) w := by
  have := h.get Try.underlying3 Try.underlying38 (zero3 _) hx false
  rw [hd] at this
  exact this
/-- The places behind the first j moves. -/
def runTo (outs : List S35) (j : Nat) : Int → Int := run ((outs.map toE).take j) id
theorem runTo_zero (outs : List S35) (x : Int) : runTo outs 0 x = x := rfl
theorem runTo_succ (outs : List S35) (j : Nat) (h : j < outs.length) (x : Int) : runTo outs (j + 1) x = if x = (rd_T35 outs j).f0 then runTo outs j (rd_T35 outs j).f1 else runTo outs j x := by
  unfold runTo
  rw [takeE outs j h]
  exact run_snoc _ _ _ _ _
theorem toE_ofE (l : List E) : (l.map ofE).map toE = l := by
  rw [List.map_map]
  have : toE ∘ ofE = id := rfl
  rw [this, List.map_id]
theorem runTo_all (bs : Int) (L : List E) (outs : List S35) (h : outs = (orderF bs L).map ofE) (x : Int) : runTo outs outs.length x = run (orderF bs L) id x := by
  unfold runTo
  have : (outs.map toE).take outs.length = outs.map toE := by rw [← List.length_map (f := toE)]; exact List.take_length
  rw [this, h, toE_ofE]
end Go.Proofs.Ytjolnfhgiddafaa.PAll
