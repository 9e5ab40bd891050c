/-
  Order's world ahead of its two last boxes; the words of its loops.
-/
import Derived.Test.YtjolnfhgiddafaaMovesDrain
namespace Go.Proofs.Ytjolnfhgiddafaa.PAll
set_option linter.unusedSimpArgs false
open Go.RowKit Go.Proofs.YtjolnfhgiddafaaW.PrintWords
open Go.Proofs.Ytjolnfhgiddafaa.MapInt Go.Proofs.Ytjolnfhgiddafaa.Moves
set_option linter.unusedVariables false
structure PSt (W0 w : World) (bF bR mF mR n : Nat) (fF fR : Int → Option Int) : Prop where
  bel : Below W0.heap.size W0 w
  lF : W0.heap.size ≤ bF
  lR : W0.heap.size ≤ bR
  lmF : W0.heap.size ≤ mF
  lmR : W0.heap.size ≤ mR
  ne : mF ≠ mR
  hF : Blk w bF 38 #[.map (some mF)]
  hR : Blk w bR 38 #[.map (some mR)]
  iF : IM Try.prog w mF n fF
  iR : IM Try.prog w mR n fR
section
variable {W0 w w2 : World} {bF bR mF mR n r cnt : Nat} {fF fR f' : Int → Option Int} {left : Int → Bool}
theorem PSt.start (W : World) : PSt W ((((W.alloc (.map #[] 0)).alloc (.cells #[.map (some W.heap.size)] 38)).alloc (.map #[] 0)).alloc (.cells #[.map (some (W.heap.size + 1 + 1))] 38)) (W.heap.size + 1) (W.heap.size + 1 + 1 + 1) W.heap.size (W.heap.size + 1 + 1) 0 (val []) (fun _ => none) := by
  have s1 : (W.alloc (.map #[] 0)).heap.size = W.heap.size + 1 := by simp
  have s2 : ((W.alloc (.map #[] 0)).alloc (.cells #[.map (some W.heap.size)] 38)).heap.size = W.heap.size + 1 + 1 := by simp
  have s3 : (((W.alloc (.map #[] 0)).alloc (.cells #[.map (some W.heap.size)] 38)).alloc (.map #[] 0)).heap.size = W.heap.size + 1 + 1 + 1 := by simp
  refine ⟨?_, by omega, by omega, by omega, by omega, by omega, ?_, ?_, ?_, ?_⟩
  · exact ((((Below.refl _ W).alloc (Nat.le_refl _) _).alloc (by simp) _).alloc (by simp; omega) _).alloc (by simp; omega) _
  · have := Blk.made (W.alloc (.map #[] 0)) 38 #[.map (some W.heap.size)]
    rw [s1] at this
    exact (this.alloc _).alloc _
  · have := Blk.made (((W.alloc (.map #[] 0)).alloc (.cells #[.map (some W.heap.size)] 38)).alloc (.map #[] 0)) 38 #[.map (some (W.heap.size + 1 + 1))]
    rw [s3] at this
    exact this
  · exact (((IM.made Try.prog W).alloc _).alloc _).alloc _
  · have := IM.made Try.prog ((W.alloc (.map #[] 0)).alloc (.cells #[.map (some W.heap.size)] 38))
    rw [s2] at this
    exact this.alloc _
theorem PSt.move (h : PSt W0 w bF bR mF mR n fF fR) (hb : Below W0.heap.size W0 w2) (hk : ∀ k, W0.heap.size ≤ k → k < w.heap.size → w2.heap[k]? = w.heap[k]?) : PSt W0 w2 bF bR mF mR n fF fR := by
  have hl : ∀ {g e cs}, W0.heap.size ≤ g → Blk w g e cs → Blk w2 g e cs := fun hg hb => (hk _ hg hb.lt).trans hb
  exact ⟨hb, h.lF, h.lR, h.lmF, h.lmR, h.ne, hl h.lF h.hF, hl h.lR h.hR, h.iF.move (hk _ h.lmF h.iF.lt), h.iR.move (hk _ h.lmR h.iR.lt)⟩
theorem PSt.alloc (h : PSt W0 w bF bR mF mR n fF fR) (o : Obj) : PSt W0 (w.alloc o) bF bR mF mR n fF fR :=
  h.move (h.bel.alloc h.bel.size o) fun k _ hk => Below.heap_alloc w o k hk
theorem PSt.mapF (h : PSt W0 w bF bR mF mR n fF fR) {n' : Nat} (hm : IM Try.prog w2 mF n' f') (hg : w.grownBy w2 (some mF)) (hn : n ≤ n') : PSt W0 w2 bF bR mF mR n' f' fR := by
  obtain ⟨es, c, hmap⟩ := h.iF.isMap
  exact ⟨h.bel.grown hg h.bel.size (fun k hk => by cases hk; exact h.lmF), h.lF, h.lR, h.lmF, h.lmR, h.ne, h.hF.kept hg (fun e => h.hF.ne_map hmap (by injection e)), h.hR.kept hg (fun e => h.hR.ne_map hmap (by injection e)),
    hm, (h.iR.kept hg (fun e => h.ne (by injection e with e; exact e.symm))).mono hn⟩
theorem PSt.mapR (h : PSt W0 w bF bR mF mR n fF fR) {n' : Nat} (hm : IM Try.prog w2 mR n' f') (hg : w.grownBy w2 (some mR)) (hn : n ≤ n') : PSt W0 w2 bF bR mF mR n' fF f' := by
  obtain ⟨es, c, hmap⟩ := h.iR.isMap
  exact ⟨h.bel.grown hg h.bel.size (fun k hk => by cases hk; exact h.lmR), h.lF, h.lR, h.lmF, h.lmR, h.ne, h.hF.kept hg (fun e => h.hF.ne_map hmap (by injection e)), h.hR.kept hg (fun e => h.hR.ne_map hmap (by injection e)),
    (h.iF.kept hg (fun e => h.ne (by injection e))).mono hn, hm⟩
theorem PSt.funs (h : PSt W0 w bF bR mF mR n fF fR) {fF' fR' : Int → Option Int} (e1 : fF' = fF) (e2 : fR' = fR) : PSt W0 w bF bR mF mR n fF' fR' := by subst e1; subst e2; exact h
theorem PSt.other (h : PSt W0 w bF bR mF mR n fF fR) {row : Option Nat} (hg : w.grownBy w2 row) (hr : ∀ k, row = some k → W0.heap.size ≤ k ∧ ∃ m s q c, w.heap[k]? = some (.mapIter m s q c)) : PSt W0 w2 bF bR mF mR n fF fR := by
  have hb : ∀ {g e cs}, Blk w g e cs → some g ≠ row := fun hb e => by
    obtain ⟨_, m, s, q, c, hc⟩ := hr _ e.symm
    unfold Blk at hb; rw [hb] at hc; cases hc
  have hm : ∀ {g n f}, IM Try.prog w g n f → some g ≠ row := fun hb e => by
    obtain ⟨_, m, s, q, c, hc⟩ := hr _ e.symm
    obtain ⟨es, c', hb⟩ := hb.isMap
    rw [hb] at hc; cases hc
  exact ⟨h.bel.grown hg h.bel.size (fun k hk => (hr k hk).1), h.lF, h.lR, h.lmF, h.lmR, h.ne, h.hF.kept hg (hb h.hF), h.hR.kept hg (hb h.hR), h.iF.kept hg (hm h.iF), h.iR.kept hg (hm h.iR)⟩
/-- A loop over the map of moves is under way. -/
structure PRg (W0 w : World) (bF bR mF mR n r cnt : Nat) (fF fR : Int → Option Int) (left : Int → Bool) : Prop where
  st : PSt W0 w bF bR mF mR n fF fR
  rg : RG Try.prog w mF r n fF left cnt
  lr : W0.heap.size ≤ r
theorem PRg.next (h : PRg W0 w bF bR mF mR n r cnt fF fR left) {left' : Int → Bool} {cnt' : Nat} (hr : RG Try.prog w2 mF r n fF left' cnt') (hg : w.grownBy w2 (some r)) : PRg W0 w2 bF bR mF mR n r cnt' fF fR left' :=
  ⟨h.st.other hg (fun k hk => by cases hk; exact ⟨h.lr, h.rg.iter⟩), hr, h.lr⟩
theorem PRg.drop (h : PRg W0 w bF bR mF mR n r cnt fF fR left) {left' : Int → Bool} {cnt' : Nat} (hr : RG Try.prog w2 mF r n f' left' cnt') (hg : w.grownBy w2 (some mF)) : PRg W0 w2 bF bR mF mR n r cnt' f' fR left' :=
  ⟨h.st.mapF hr.map hg (Nat.le_refl _), hr, h.lr⟩
theorem RG.mono {n' : Nat} (h : RG Try.prog w mF r n fF left cnt) (hn : n ≤ n') : RG Try.prog w mF r n' fF left cnt := by
  obtain ⟨D, lf, ⟨es, clock, since, seen, c0, h1, h2, h3, h4⟩, h5⟩ := h
  exact ⟨D, lf, ⟨es, clock, since, seen, c0, h1, h2, by omega, h4⟩, h5⟩
theorem PRg.count (h : PRg W0 w bF bR mF mR n r cnt fF fR left) {n' : Nat} (hm : IM Try.prog w2 mR n' f') (hg : w.grownBy w2 (some mR)) (hn : n ≤ n') : PRg W0 w2 bF bR mF mR n' r cnt fF f' left := by
  obtain ⟨es, c', hb⟩ := h.st.iR.isMap
  exact ⟨h.st.mapR hm hg hn, RG.mono (h.rg.kept hg (fun e => h.st.ne (by injection e)) (fun e => by
    injection e with e
    obtain ⟨m, s, q, c, hc⟩ := h.rg.iter
    rw [e, hb] at hc; cases hc)) hn, h.lr⟩
end

/-! ### The words of the loops -/
def toE (x : S35) : E := (x.f0, x.f1)
def OkL (L : List E) (bs : Int) : Prop := (keys L).Nodup ∧ ∀ e ∈ L, e.1 ≠ bs ∧ e.2 ≠ bs
theorem val_snoc {r : List E} {t : Int} (a : Int) (h : t ∉ keys r) : val (r ++ [(t, a)]) = upd (val r) t a := by
  funext y
  unfold upd val
  rw [List.find?_append]
  by_cases e : y = t
  · subst e
    rw [if_pos rfl]
    have : r.find? (fun e => decide (e.1 = y)) = none := by
      rw [List.find?_eq_none]; intro e he h2
      exact h (mem_keys.2 ⟨e.2, by have : e.1 = y := by simpa using h2
                                   subst this; exact he⟩)
    rw [this]; simp
  · rw [if_neg e]
    have : ([(t, a)] : List E).find? (fun e => decide (e.1 = y)) = none := by simp; exact fun h => e h.symm
    rw [this]; simp
theorem takeE (ls : List S35) (i : Nat) (h : i < ls.length) : (ls.map toE).take (i + 1) = (ls.map toE).take i ++ [((rd_T35 ls i).f0, (rd_T35 ls i).f1)] := by
  rw [List.take_succ_eq_append_getElem (by simpa using h)]
  unfold rd_T35
  simp [List.getD_eq_getElem?_getD, h, toE]
theorem atE (ls : List S35) (i : Nat) (h : i < ls.length) : ((rd_T35 ls i).f0, (rd_T35 ls i).f1) ∈ ls.map toE := by
  refine List.mem_of_mem_take (i := i + 1) ?_
  rw [takeE ls i h]; simp
theorem keys_app (a b : List E) : keys (a ++ b) = keys a ++ keys b := by simp [keys]
theorem okL_take {L : List E} {bs : Int} (h : OkL L bs) (i : Nat) : OkL (L.take i) bs :=
  ⟨by unfold keys; exact h.1.sublist ((List.take_sublist i L).map _), fun e he => h.2 e (List.mem_of_mem_take he)⟩
theorem okL_snoc {L : List E} {bs t a : Int} (h : OkL L bs) (h1 : t ∉ keys L) (h2 : t ≠ bs) (h3 : a ≠ bs) : OkL (L ++ [(t, a)]) bs := by
  refine ⟨?_, fun e he => ?_⟩
  · rw [keys_app, List.nodup_append]
    refine ⟨h.1, by simp [keys], ?_⟩
    intro x hx y hy
    have : y = t := by simpa [keys] using hy
    subst this; rintro rfl; exact h1 hx
  · rcases List.mem_append.1 he with he | he
    · exact h.2 e he
    · rw [List.mem_singleton] at he; subst he; exact ⟨h2, h3⟩
theorem not_okL {L l : List E} {bs t a : Int} (ht : L = l) {i : Nat} (hi : l.take (i + 1) = l.take i ++ [(t, a)]) (h : t ∈ keys (l.take i) ∨ t = bs ∨ a = bs) : ¬ OkL L bs := by
  subst ht
  intro hk
  have h1 := okL_take hk (i + 1)
  rw [hi] at h1
  rcases h with h | h | h
  · have := h1.1
    rw [keys_app, List.nodup_append] at this
    exact this.2.2 t h t (by simp [keys]) rfl
  · exact (h1.2 (t, a) (by simp)).1 h
  · exact (h1.2 (t, a) (by simp)).2 h
end Go.Proofs.Ytjolnfhgiddafaa.PAll
