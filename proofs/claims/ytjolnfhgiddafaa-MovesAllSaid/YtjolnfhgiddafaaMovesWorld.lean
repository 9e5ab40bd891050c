/-
  Order's world: four boxes, two maps, the moves made and the places nobody reads; what each step leaves of it.
-/
import Derived.Test.YtjolnfhgiddafaaMovesPure
import Derived.Test.YtjolnfhgiddafaaRangeInt
import Derived.Test.YtjolnfhgiddafaaBox
import Derived.Test.YtjolnfhgiddafaaQOwn
import Derived.Test.YtjolnfhgiddafaaPAllx0
namespace Go.Proofs.Ytjolnfhgiddafaa.PAll
set_option linter.unusedSimpArgs false
open Go.RowKit Go.Proofs.YtjolnfhgiddafaaW.PrintWords
open Go.Proofs.Ytjolnfhgiddafaa.MapInt Go.Proofs.Ytjolnfhgiddafaa.Moves
set_option linter.unusedVariables false
def cellsE (out : List E) : List Value := out.flatMap fun e => [.int .i64 e.1, .int .i64 e.2]
theorem cellsE_app (a b : List E) : cellsE (a ++ b) = cellsE a ++ cellsE b := by simp [cellsE]
structure OSt (W0 w : World) (bF bR bO bE mF mR n : Nat) (fF fR : Int → Option Int) (vO vE uO uE : Value) (free : List Int) (out : List E) : Prop where
  bel : Below W0.heap.size W0 w
  lF : W0.heap.size ≤ bF
  lR : W0.heap.size ≤ bR
  lO : W0.heap.size ≤ bO
  lE : W0.heap.size ≤ bE
  lmF : W0.heap.size ≤ mF
  lmR : W0.heap.size ≤ mR
  ne : mF ≠ mR
  hF : Blk w bF 38 #[.map (some mF)]
  hR : Blk w bR 38 #[.map (some mR)]
  hO : Blk w bO 22 #[vO]
  hE : Blk w bE 24 #[vE]
  iF : IM Try.prog w mF n fF
  iR : IM Try.prog w mR n fR
  rO : w.ownsRow W0.heap.size 35 2 uO out.length (cellsE out)
  rE : QRow w W0.heap.size 3 1 uE free.length (nums .i64 free)
section
variable {W0 w w2 : World} {bF bR bO bE mF mR n : Nat} {fF fR f' : Int → Option Int} {vO vE uO uE v' : Value} {free : List Int} {out : List E}
theorem OSt.move (h : OSt W0 w bF bR bO bE mF mR n fF fR vO vE uO uE free out) (hb : Below W0.heap.size W0 w2) (hk : ∀ k, W0.heap.size ≤ k → k < w.heap.size → w2.heap[k]? = w.heap[k]?) : OSt W0 w2 bF bR bO bE mF mR n fF fR vO vE uO uE free out := by
  have hl : ∀ {g e cs}, W0.heap.size ≤ g → Blk w g e cs → Blk w2 g e cs := fun hg hb => (hk _ hg hb.lt).trans hb
  refine ⟨hb, h.lF, h.lR, h.lO, h.lE, h.lmF, h.lmR, h.ne, hl h.lF h.hF, hl h.lR h.hR, hl h.lO h.hO, hl h.lE h.hE, h.iF.move (hk _ h.lmF h.iF.lt), h.iR.move (hk _ h.lmR h.iR.lt), own_move h.rO fun k hk' => hk k (own_row_lt h.rO k hk').2 (own_row_lt h.rO k hk').1, q_move h.rE fun k hk' => hk k (q_typed h.rE k hk').1 (q_lt h.rE k hk')⟩
theorem OSt.grown (h : OSt W0 w bF bR bO bE mF mR n fF fR vO vE uO uE free out) {row : Option Nat} (hg : w.grownBy w2 row) (hr : ∀ k, row = some k → W0.heap.size ≤ k)
    (k1 : some bF ≠ row) (k2 : some bR ≠ row) (k3 : some bO ≠ row) (k4 : some bE ≠ row) (k5 : some mF ≠ row) (k6 : some mR ≠ row) (k7 : ∀ k, uO.ownBlock = some k → some k ≠ row) (k8 : ∀ k, uE.ownBlock = some k → some k ≠ row) : OSt W0 w2 bF bR bO bE mF mR n fF fR vO vE uO uE free out :=
  ⟨h.bel.grown hg h.bel.size hr, h.lF, h.lR, h.lO, h.lE, h.lmF, h.lmR, h.ne, h.hF.kept hg k1, h.hR.kept hg k2, h.hO.kept hg k3, h.hE.kept hg k4, h.iF.kept hg k5, h.iR.kept hg k6, own_kept h.rO hg k7, q_kept h.rE hg k8⟩
theorem OSt.alloc (h : OSt W0 w bF bR bO bE mF mR n fF fR vO vE uO uE free out) (o : Obj) : OSt W0 (w.alloc o) bF bR bO bE mF mR n fF fR vO vE uO uE free out :=
  h.move (h.bel.alloc h.bel.size o) fun k _ hk => Below.heap_alloc w o k hk
theorem OSt.called (h : OSt W0 w bF bR bO bE mF mR n fF fR vO vE uO uE free out) (hb : Below w.heap.size w w2) : OSt W0 w2 bF bR bO bE mF mR n fF fR vO vE uO uE free out :=
  h.move (below_step h.bel hb) fun k _ hk => hb.block k hk
/-- The map of moves has turned. -/
theorem OSt.mapF (h : OSt W0 w bF bR bO bE mF mR n fF fR vO vE uO uE free out) {n' : Nat} (hm : IM Try.prog w2 mF n' f') (hg : w.grownBy w2 (some mF)) (hn : n ≤ n') : OSt W0 w2 bF bR bO bE mF mR n' f' fR vO vE uO uE free out := by
  obtain ⟨es, c, hmap⟩ := h.iF.isMap
  exact ⟨h.bel.grown hg h.bel.size (fun k hk => by cases hk; exact h.lmF), h.lF, h.lR, h.lO, h.lE, h.lmF, h.lmR, h.ne, h.hF.kept hg (fun e => h.hF.ne_map hmap (by injection e)), h.hR.kept hg (fun e => h.hR.ne_map hmap (by injection e)), h.hO.kept hg (fun e => h.hO.ne_map hmap (by injection e)), h.hE.kept hg (fun e => h.hE.ne_map hmap (by injection e)),
    hm, (h.iR.kept hg (fun e => h.ne (by injection e with e; exact e.symm))).mono hn, own_kept h.rO hg (own_apart_obj h.rO hmap (fun _ e => by cases e)), q_kept h.rE hg (q_apart_obj h.rE hmap (fun _ e => by cases e))⟩
/-- The map of readers has turned. -/
theorem OSt.mapR (h : OSt W0 w bF bR bO bE mF mR n fF fR vO vE uO uE free out) {n' : Nat} (hm : IM Try.prog w2 mR n' f') (hg : w.grownBy w2 (some mR)) (hn : n ≤ n') : OSt W0 w2 bF bR bO bE mF mR n' fF f' vO vE uO uE free out := by
  obtain ⟨es, c, hmap⟩ := h.iR.isMap
  exact ⟨h.bel.grown hg h.bel.size (fun k hk => by cases hk; exact h.lmR), h.lF, h.lR, h.lO, h.lE, h.lmF, h.lmR, h.ne, h.hF.kept hg (fun e => h.hF.ne_map hmap (by injection e)), h.hR.kept hg (fun e => h.hR.ne_map hmap (by injection e)), h.hO.kept hg (fun e => h.hO.ne_map hmap (by injection e)), h.hE.kept hg (fun e => h.hE.ne_map hmap (by injection e)),
    (h.iF.kept hg (fun e => h.ne (by injection e))).mono hn, hm, own_kept h.rO hg (own_apart_obj h.rO hmap (fun _ e => by cases e)), q_kept h.rE hg (q_apart_obj h.rE hmap (fun _ e => by cases e))⟩
/-- The box of the moves made is stored. -/
theorem OSt.boxO (h : OSt W0 w bF bR bO bE mF mR n fF fR vO vE uO uE free out) (hb : Blk w2 bO 22 #[v']) (hg : w.grownBy w2 (some bO)) : OSt W0 w2 bF bR bO bE mF mR n fF fR v' vE uO uE free out := by
  obtain ⟨es, c, hm1⟩ := h.iF.isMap
  obtain ⟨es', c', hm2⟩ := h.iR.isMap
  exact ⟨h.bel.grown hg h.bel.size (fun k hk => by cases hk; exact h.lO), h.lF, h.lR, h.lO, h.lE, h.lmF, h.lmR, h.ne, h.hF.kept hg (fun e => h.hF.ne_type h.hO (by decide) (by injection e)), h.hR.kept hg (fun e => h.hR.ne_type h.hO (by decide) (by injection e)), hb, h.hE.kept hg (fun e => h.hE.ne_type h.hO (by decide) (by injection e)),
    h.iF.kept hg (fun e => h.hO.ne_map hm1 (by injection e with e; exact e.symm)), h.iR.kept hg (fun e => h.hO.ne_map hm2 (by injection e with e; exact e.symm)), own_kept h.rO hg (own_apart_obj h.rO h.hO (fun _ e => by cases e)), q_kept h.rE hg (q_apart_obj h.rE h.hO (fun _ e => by cases e))⟩
/-- The box of the free places is stored. -/
theorem OSt.boxE (h : OSt W0 w bF bR bO bE mF mR n fF fR vO vE uO uE free out) (hb : Blk w2 bE 24 #[v']) (hg : w.grownBy w2 (some bE)) : OSt W0 w2 bF bR bO bE mF mR n fF fR vO v' uO uE free out := by
  obtain ⟨es, c, hm1⟩ := h.iF.isMap
  obtain ⟨es', c', hm2⟩ := h.iR.isMap
  exact ⟨h.bel.grown hg h.bel.size (fun k hk => by cases hk; exact h.lE), h.lF, h.lR, h.lO, h.lE, h.lmF, h.lmR, h.ne, h.hF.kept hg (fun e => h.hF.ne_type h.hE (by decide) (by injection e)), h.hR.kept hg (fun e => h.hR.ne_type h.hE (by decide) (by injection e)), h.hO.kept hg (fun e => h.hO.ne_type h.hE (by decide) (by injection e)), hb,
    h.iF.kept hg (fun e => h.hE.ne_map hm1 (by injection e with e; exact e.symm)), h.iR.kept hg (fun e => h.hE.ne_map hm2 (by injection e with e; exact e.symm)), own_kept h.rO hg (own_apart_obj h.rO h.hE (fun _ e => by cases e)), q_kept h.rE hg (q_apart_obj h.rE h.hE (fun _ e => by cases e))⟩
/-- A move has been appended. -/
theorem OSt.made (h : OSt W0 w bF bR bO bE mF mR n fF fR vO vE uO uE free out) {cs : Array Value} {out' : List E} (ho : w2.ownsRow W0.heap.size 35 2 v' out'.length (cellsE out')) (hg : (w.alloc (.cells cs 35)).grownBy w2 uO.ownBlock) : OSt W0 w2 bF bR bO bE mF mR n fF fR vO vE v' uE free out' := by
  have hg' := grown_alloc hg
  obtain ⟨es, c, hm1⟩ := h.iF.isMap
  obtain ⟨es', c', hm2⟩ := h.iR.isMap
  exact ⟨h.bel.grown hg' h.bel.size (fun k hk => (own_row_lt h.rO k hk).2), h.lF, h.lR, h.lO, h.lE, h.lmF, h.lmR, h.ne, h.hF.kept hg' (h.hF.ne_own h.rO (by decide)), h.hR.kept hg' (h.hR.ne_own h.rO (by decide)), h.hO.kept hg' (h.hO.ne_own h.rO (by decide)), h.hE.kept hg' (h.hE.ne_own h.rO (by decide)),
    h.iF.kept hg' (own_ne_map h.rO hm1), h.iR.kept hg' (own_ne_map h.rO hm2), ho, q_kept h.rE hg' (q_apart h.rE h.rO (by decide))⟩
/-- A place has been appended. -/
theorem OSt.freed (h : OSt W0 w bF bR bO bE mF mR n fF fR vO vE uO uE free out) {cs : Array Value} {free' : List Int} (ho : QRow w2 W0.heap.size 3 1 v' free'.length (nums .i64 free')) (hg : (w.alloc (.cells cs 3)).grownBy w2 uE.ownBlock) : OSt W0 w2 bF bR bO bE mF mR n fF fR vO vE uO v' free' out := by
  have hg' := grown_alloc hg
  obtain ⟨es, c, hm1⟩ := h.iF.isMap
  obtain ⟨es', c', hm2⟩ := h.iR.isMap
  have hb : ∀ {g e cs}, Blk w g e cs → e ≠ 3 → some g ≠ uE.ownBlock := fun hb hne e => by
    obtain ⟨_, c, hc⟩ := q_typed h.rE _ e.symm
    unfold Blk at hb; rw [hb] at hc; injection hc with hc; injection hc with _ hc; exact hne hc
  have hm : ∀ {g es c}, w.heap[g]? = some (.map es c) → some g ≠ uE.ownBlock := fun hb e => by
    obtain ⟨_, c, hc⟩ := q_typed h.rE _ e.symm
    rw [hb] at hc; injection hc with hc; cases hc
  exact ⟨h.bel.grown hg' h.bel.size (fun k hk => (q_typed h.rE k hk).1), h.lF, h.lR, h.lO, h.lE, h.lmF, h.lmR, h.ne, h.hF.kept hg' (hb h.hF (by decide)), h.hR.kept hg' (hb h.hR (by decide)), h.hO.kept hg' (hb h.hO (by decide)), h.hE.kept hg' (hb h.hE (by decide)),
    h.iF.kept hg' (hm hm1), h.iR.kept hg' (hm hm2), own_kept h.rO hg' (fun k hk e => (q_apart h.rE h.rO (by decide)) k e.symm hk.symm), ho⟩
theorem OSt.tail (h : OSt W0 w bF bR bO bE mF mR n fF fR vO vE uO uE free out) {free' : List Int} (hq : QRow w W0.heap.size 3 1 v' free'.length (nums .i64 free')) : OSt W0 w bF bR bO bE mF mR n fF fR vO vE uO v' free' out :=
  ⟨h.bel, h.lF, h.lR, h.lO, h.lE, h.lmF, h.lmR, h.ne, h.hF, h.hR, h.hO, h.hE, h.iF, h.iR, h.rO, hq⟩
theorem OSt.funs (h : OSt W0 w bF bR bO bE mF mR n fF fR vO vE uO uE free out) {fF' fR' : Int → Option Int} (e1 : fF' = fF) (e2 : fR' = fR) : OSt W0 w bF bR bO bE mF mR n fF' fR' vO vE uO uE free out := by subst e1; subst e2; exact h
end
theorem val_rid {r : List E} (t : Int) : val (rid r t) = del (val r) t := by
  funext y
  unfold del
  split
  · rename_i h; subst h
    exact val_none (fun h => (keys_rid.1 h).2 rfl)
  · rename_i h
    unfold val rid
    congr 1
    induction r with
    | nil => rfl
    | cons m r ih =>
      rw [List.filter_cons]
      by_cases e : m.1 = y
      · have : m.1 ≠ t := by omega
        simp [this, e, List.find?_cons, h]
      · by_cases e2 : m.1 = t
        · have : decide (m.1 ≠ t) = false := by simp [e2]
          rw [this, List.find?_cons]
          simp only [decide_eq_false e]
          exact ih
        · have : decide (m.1 ≠ t) = true := by simp [e2]
          rw [this, if_pos rfl, List.find?_cons, List.find?_cons]
          simp only [decide_eq_false e]
          exact ih
end Go.Proofs.Ytjolnfhgiddafaa.PAll
