/-
  The lists that Order's two loops over its map go through.
-/
import Derived.Test.YtjolnfhgiddafaaOrderWorld
namespace Go.Proofs.Ytjolnfhgiddafaa.PAll
set_option linter.unusedSimpArgs false
open Go.RowKit Go.Proofs.YtjolnfhgiddafaaW.PrintWords
open Go.Proofs.Ytjolnfhgiddafaa.MapInt Go.Proofs.Ytjolnfhgiddafaa.Moves
set_option linter.unusedVariables false
def without (ks : List Int) (x : Int) : List Int := ks.filter (fun z => decide (z ≠ x))
theorem mem_without {ks : List Int} {x z : Int} : z ∈ without ks x ↔ z ∈ ks ∧ z ≠ x := by unfold without; simp
theorem without_nd {ks : List Int} (h : ks.Nodup) (x : Int) : (without ks x).Nodup := h.sublist List.filter_sublist
theorem without_len : ∀ {ks : List Int} {x : Int}, ks.Nodup → x ∈ ks → (without ks x).length + 1 = ks.length
  | [], x, _, hx => by cases hx
  | k :: ks, x, hn, hx => by
    have hn' := List.nodup_cons.1 hn
    by_cases e : k = x
    · subst e
      have : without (k :: ks) k = ks := by
        unfold without
        rw [List.filter_cons]
        simp
        intro z hz; rintro rfl; exact hn'.1 hz
      rw [this]; rfl
    · have h1 : x ∈ ks := by
        rcases List.mem_cons.1 hx with h | h
        · exact absurd h.symm e
        · exact h
      have : without (k :: ks) x = k :: without ks x := by unfold without; rw [List.filter_cons]; simp [e]
      rw [this, List.length_cons, List.length_cons, without_len hn'.2 h1]
theorem left_without (ks : List Int) (x : Int) : (fun z => decide (z ∈ ks) && !decide (z = x)) = fun z => decide (z ∈ without ks x) := by
  funext z
  by_cases h1 : z ∈ ks <;> by_cases h2 : z = x <;> simp [mem_without, h1, h2]
theorem left_without2 (ks : List Int) (x : Int) : (fun z => decide (z ∈ without ks x) && !decide (z = x)) = fun z => decide (z ∈ without ks x) := by
  funext z
  by_cases h1 : z ∈ ks <;> by_cases h2 : z = x <;> simp [mem_without, h1, h2]
/-- What the map of moves still holds while the keys ks are to come; what has been counted. -/
def stillF (L : List E) (ks : List Int) : List E := L.filter (fun e => decide (e.1 ≠ e.2) || decide (e.1 ∈ ks))
def doneF (L : List E) (ks : List Int) : List E := L.filter (fun e => decide (e.1 ≠ e.2) && !decide (e.1 ∈ ks))
theorem stillF_all (L : List E) : stillF L (keys L) = L := by
  unfold stillF; rw [List.filter_eq_self]; intro e he
  have : e.1 ∈ keys L := mem_keys.2 ⟨e.2, he⟩
  simp [this]
theorem doneF_all (L : List E) : doneF L (keys L) = [] := by
  unfold doneF; rw [List.filter_eq_nil_iff]; intro e he
  have : e.1 ∈ keys L := mem_keys.2 ⟨e.2, he⟩
  simp [this]
theorem stillF_nil (L : List E) : stillF L [] = real L := by unfold stillF real; simp
theorem doneF_nil (L : List E) : doneF L [] = real L := by unfold doneF real; simp
theorem stillF_mem {L : List E} {ks : List Int} {e : E} (h : e ∈ stillF L ks) : e ∈ L := (List.mem_filter.1 h).1
theorem stillF_self {L : List E} {ks : List Int} {x : Int} (hn : (keys L).Nodup) (hm : (x, x) ∈ L) : stillF L (without ks x) = rid (stillF L ks) x ∧ doneF L (without ks x) = doneF L ks := by
  constructor
  · unfold stillF rid
    rw [List.filter_filter]
    apply List.filter_congr
    intro e he
    by_cases h : e.1 = x
    · have : e.2 = x := nd_eq hn (t := x) (by rw [← h]; exact he) hm
      simp [h, this, mem_without]
    · simp [h, mem_without]
  · unfold doneF
    apply List.filter_congr
    intro e he
    by_cases h : e.1 = x
    · have : e.2 = x := nd_eq hn (t := x) (by rw [← h]; exact he) hm
      simp [h, this]
    · simp [h, mem_without]
theorem stillF_other {L : List E} {ks : List Int} {x c : Int} (hn : (keys L).Nodup) (hm : (x, c) ∈ L) (hc : x ≠ c) (hx : x ∈ ks) : stillF L (without ks x) = stillF L ks ∧ ∀ y, cnt (doneF L (without ks x)) y = cnt (doneF L ks) y + (if c = y then 1 else 0) := by
  constructor
  · unfold stillF
    apply List.filter_congr
    intro e he
    by_cases h : e.1 = x
    · have : e.2 = c := nd_eq hn (t := x) (by rw [← h]; exact he) hm
      simp [h, this, hc]
    · simp [h, mem_without]
  · intro y
    have hd : (keys (doneF L (without ks x))).Nodup := by unfold keys doneF; exact hn.sublist (List.filter_sublist.map _)
    have hmem : (x, c) ∈ doneF L (without ks x) := by
      unfold doneF; exact List.mem_filter.2 ⟨hm, by simp [hc, mem_without]⟩
    have h1 := (rid_len hd hmem).2 y
    have h2 : rid (doneF L (without ks x)) x = doneF L ks := by
      unfold doneF rid
      rw [List.filter_filter]
      apply List.filter_congr
      intro e he
      by_cases h : e.1 = x
      · simp [h, hx]
      · simp [h, mem_without]
    rw [h2] at h1
    omega
/-- What the map of moves reads as while a circle is broken. -/
def curF (bs t : Int) (r : List E) (ks : List Int) : List E := r.map (fun e => if e.2 = t ∧ e.1 ∉ ks then (e.1, bs) else e)
theorem curF_keys (bs t : Int) (r : List E) (ks : List Int) : keys (curF bs t r ks) = keys r := by
  unfold keys curF
  rw [List.map_map]
  apply List.map_congr_left
  intro e _
  simp only [Function.comp]; split <;> rfl
theorem curF_all (bs t : Int) (r : List E) : curF bs t r (keys r) = r := by
  unfold curF
  conv => rhs; rw [← List.map_id r]
  apply List.map_congr_left
  intro e he
  have : e.1 ∈ keys r := mem_keys.2 ⟨e.2, he⟩
  simp [this]
theorem curF_nil (bs t : Int) (r : List E) : curF bs t r [] = turn bs t r := by unfold curF turn; simp
theorem curF_mem {bs t x c : Int} {r : List E} {ks : List Int} (hx : x ∈ ks) (h : (x, c) ∈ curF bs t r ks) : (x, c) ∈ r := by
  unfold curF at h
  obtain ⟨e, he, h2⟩ := List.mem_map.1 h
  split at h2
  · rename_i h3
    injection h2 with h2 _
    exact absurd (h2 ▸ hx) h3.2
  · rw [← h2]; exact he
theorem curF_other {bs t x c : Int} {r : List E} {ks : List Int} (hn : (keys r).Nodup) (hm : (x, c) ∈ r) (hc : c ≠ t) : curF bs t r (without ks x) = curF bs t r ks := by
  unfold curF
  apply List.map_congr_left
  intro e he
  by_cases h : e.1 = x
  · have : e.2 = c := nd_eq hn (t := x) (by rw [← h]; exact he) hm
    simp [this, hc]
  · simp [mem_without, h]
def put (r : List E) (x b : Int) : List E := r.map (fun e => if e.1 = x then (x, b) else e)
theorem curF_put {bs t x : Int} {r : List E} {ks : List Int} (hn : (keys r).Nodup) (hm : (x, t) ∈ r) : curF bs t r (without ks x) = put (curF bs t r ks) x bs := by
  unfold curF put
  rw [List.map_map]
  apply List.map_congr_left
  intro e he
  by_cases h : e.1 = x
  · have h2 : e.2 = t := nd_eq hn (t := x) (by rw [← h]; exact he) hm
    simp only [Function.comp, mem_without, h, h2]
    simp
    split <;> simp [h]
  · simp only [Function.comp, mem_without]
    by_cases h2 : e.2 = t ∧ e.1 ∉ ks
    · rw [if_pos ⟨h2.1, fun h3 => h2.2 h3.1⟩, if_pos h2]; simp [h]
    · rw [if_neg (fun h3 => h2 ⟨h3.1, fun h4 => h3.2 ⟨h4, h⟩⟩), if_neg h2]; simp [h]
theorem put_same {r : List E} {x b : Int} (h : x ∉ keys r) : put r x b = r := by
  unfold put
  conv => rhs; rw [← List.map_id r]
  apply List.map_congr_left
  intro e he
  have : e.1 ≠ x := fun e1 => h (mem_keys.2 ⟨e.2, by rw [← e1]; exact he⟩)
  simp [this]
theorem put_cnt {r : List E} {x c b : Int} (hn : (keys r).Nodup) (hm : (x, c) ∈ r) : ∀ y, cnt (put r x b) y + (if c = y then 1 else 0) = cnt r y + (if b = y then 1 else 0) := by
  induction r with
  | nil => cases hm
  | cons m r ih =>
    intro y
    unfold keys at hn; rw [List.map_cons, List.nodup_cons] at hn
    rcases List.mem_cons.1 hm with e | hm'
    · subst e
      have h1 : put ((x, c) :: r) x b = (x, b) :: r := by
        have := put_same (r := r) (x := x) (b := b) hn.1
        unfold put at this ⊢
        rw [List.map_cons, this]; simp
      rw [h1]
      unfold cnt; rw [List.filter_cons, List.filter_cons]
      by_cases e1 : b = y <;> by_cases e2 : c = y <;> simp [e1, e2]
    · have hmx : m.1 ≠ x := fun e => hn.1 (by rw [e]; exact mem_keys.2 ⟨c, hm'⟩)
      have h1 : put (m :: r) x b = m :: put r x b := by unfold put; rw [List.map_cons]; simp [hmx]
      have h2 := ih hn.2 hm' y
      rw [h1]
      unfold cnt at h2 ⊢
      rw [List.filter_cons, List.filter_cons]
      by_cases e3 : m.2 = y <;> simp only [e3, decide_true, decide_false, if_true, Bool.false_eq_true, if_false, List.length_cons] <;> omega
theorem put_val {r : List E} {x c b : Int} (hm : (x, c) ∈ r) : val (put r x b) = upd (val r) x b := by
  funext y
  unfold upd
  by_cases h : y = x
  · subst h
    rw [if_pos rfl]
    induction r with
    | nil => cases hm
    | cons m r ih =>
      unfold put val
      rw [List.map_cons, List.find?_cons]
      by_cases e : m.1 = y
      · simp [e]
      · have hm' : (y, c) ∈ r := by
          rcases List.mem_cons.1 hm with h | h
          · exact absurd (by rw [← h]) e
          · exact h
        have := ih hm'
        unfold put val at this
        simp only [e, if_false, decide_false]
        exact this
  · rw [if_neg h]
    unfold val put
    clear hm
    induction r with
    | nil => rfl
    | cons m r ih =>
      rw [List.map_cons, List.find?_cons, List.find?_cons]
      by_cases e : m.1 = x
      · have e2 : m.1 ≠ y := fun e3 => h (e3.symm.trans e)
        have e3 : x ≠ y := fun e => h e.symm
        simp only [e, if_true, e3, decide_false]
        exact ih
      · simp only [e, if_false]
        by_cases e2 : m.1 = y
        · simp [e2]
        · simp only [e2, decide_false]; exact ih
section
variable {W0 w w2 : World} {bF bR bO bE mF mR n r cnt : Nat} {fF fR f' : Int → Option Int} {vO vE uO uE v' : Value} {free : List Int} {out : List E} {left : Int → Bool}
theorem PRg.start (h : PSt W0 w bF bR mF mR n fF fR) (hr : ∃ cnt, RG Try.prog w2 mF w.heap.size n fF left cnt) (hg : w.grownBy w2 none) {left' : Int → Bool} (hl : left' = left) : ∃ cnt, PRg W0 w2 bF bR mF mR n w.heap.size cnt fF fR left' := by
  obtain ⟨cnt, hr⟩ := hr
  subst hl
  exact ⟨cnt, h.other hg (fun k hk => by cases hk), hr, h.bel.size⟩
theorem OSt.start (h : PSt W0 w bF bR mF mR n fF fR) : OSt W0 ((w.alloc (.cells #[.slice none 0 0] 22)).alloc (.cells #[.slice none 0 0] 24)) bF bR w.heap.size (w.heap.size + 1) mF mR n fF fR (.slice none 0 0) (.slice none 0 0) (.slice none 0 0) (.slice none 0 0) [] [] := by
  have s1 : (w.alloc (.cells #[.slice none 0 0] 22)).heap.size = w.heap.size + 1 := by simp
  have h2 := (h.alloc (.cells #[.slice none 0 0] 22)).alloc (.cells #[.slice none 0 0] 24)
  have b2 := Blk.made (w.alloc (.cells #[.slice none 0 0] 22)) 24 #[.slice none 0 0]
  rw [s1] at b2
  exact ⟨h2.bel, h.lF, h.lR, h.bel.size, Nat.le_succ_of_le h.bel.size, h.lmF, h.lmR, h.ne, h2.hF, h2.hR, (Blk.made w 22 #[.slice none 0 0]).alloc _, b2, h2.iF, h2.iR, ⟨by simp [cellsE], .inl ⟨rfl, rfl⟩⟩, q_of_own ⟨by simp [nums], .inl ⟨rfl, rfl⟩⟩⟩
/-- A loop over the map of moves is under way, while a circle is broken; g: the block of the move that the outer loop holds. -/
structure ORg (W0 w : World) (bF bR bO bE mF mR n r cnt g : Nat) (m : Array Value) (fF fR : Int → Option Int) (vO vE : Value) (free : List Int) (out : List E) (left : Int → Bool) : Prop where
  st : OSt W0 w bF bR bO bE mF mR n fF fR vO vE vO vE free out
  rg : RG Try.prog w mF r n fF left cnt
  lr : W0.heap.size ≤ r
  hM : Blk w g 35 m
theorem OSt.iter (h : OSt W0 w bF bR bO bE mF mR n fF fR vO vE uO uE free out) {row : Option Nat} (hg : w.grownBy w2 row) (hr : ∀ k, row = some k → W0.heap.size ≤ k ∧ ∃ m s q c, w.heap[k]? = some (.mapIter m s q c)) : OSt W0 w2 bF bR bO bE mF mR n fF fR vO vE uO uE free out := by
  have hb : ∀ {g e cs}, Blk w g e cs → some g ≠ row := fun hb e => by
    obtain ⟨_, m, s, q, c, hc⟩ := hr _ e.symm
    unfold Blk at hb; rw [hb] at hc; cases hc
  have hm : ∀ {g n f}, IM Try.prog w g n f → some g ≠ row := fun hb e => by
    obtain ⟨_, m, s, q, c, hc⟩ := hr _ e.symm
    obtain ⟨es, c', hb⟩ := hb.isMap
    rw [hb] at hc; cases hc
  refine h.grown hg (fun k hk => (hr k hk).1) (hb h.hF) (hb h.hR) (hb h.hO) (hb h.hE) (hm h.iF) (hm h.iR) ?_ ?_
  · intro k hk e
    obtain ⟨_, m, s, q, c, hc⟩ := hr _ e.symm
    obtain ⟨_, _, cs, h2⟩ := own_block h.rO hk
    rw [h2] at hc; cases hc
  · intro k hk e
    obtain ⟨_, m, s, q, c, hc⟩ := hr _ e.symm
    obtain ⟨_, cs, h2⟩ := q_typed h.rE k hk
    rw [h2] at hc; cases hc
theorem ORg.start {g : Nat} {m : Array Value} (h : OSt W0 w bF bR bO bE mF mR n fF fR vO vE vO vE free out) (hM : Blk w g 35 m) (hr : ∃ cnt, RG Try.prog w2 mF w.heap.size n fF left cnt) (hg : w.grownBy w2 none) {left' : Int → Bool} (hl : left' = left) : ∃ cnt, ORg W0 w2 bF bR bO bE mF mR n w.heap.size cnt g m fF fR vO vE free out left' := by
  obtain ⟨cnt, hr⟩ := hr
  subst hl
  exact ⟨cnt, h.iter hg (fun k hk => by cases hk), hr, h.bel.size, hM.kept hg (by simp)⟩
theorem ORg.next {g : Nat} {m : Array Value} (h : ORg W0 w bF bR bO bE mF mR n r cnt g m fF fR vO vE free out left) {left' : Int → Bool} {cnt' : Nat} (hr : RG Try.prog w2 mF r n fF left' cnt') (hg : w.grownBy w2 (some r)) : ORg W0 w2 bF bR bO bE mF mR n r cnt' g m fF fR vO vE free out left' :=
  ⟨h.st.iter hg (fun k hk => by cases hk; exact ⟨h.lr, h.rg.iter⟩), hr, h.lr, h.hM.kept hg (fun e => by
    injection e with e
    obtain ⟨m, s, q, c, hc⟩ := h.rg.iter
    have := h.hM
    unfold Blk at this; rw [e, hc] at this; cases this)⟩
theorem ORg.set {g : Nat} {m : Array Value} (h : ORg W0 w bF bR bO bE mF mR n r cnt g m fF fR vO vE free out left) {left' : Int → Bool} {cnt' : Nat} (hr : RG Try.prog w2 mF r n f' left' cnt') (hg : w.grownBy w2 (some mF)) : ORg W0 w2 bF bR bO bE mF mR n r cnt' g m f' fR vO vE free out left' := by
  obtain ⟨es, c', hb⟩ := h.st.iF.isMap
  exact ⟨h.st.mapF hr.map hg (Nat.le_refl _), hr, h.lr, h.hM.kept hg (fun e => h.hM.ne_map hb (by injection e))⟩
theorem ORg.count {g : Nat} {m : Array Value} (h : ORg W0 w bF bR bO bE mF mR n r cnt g m fF fR vO vE free out left) {n' : Nat} (hm : IM Try.prog w2 mR n' f') (hg : w.grownBy w2 (some mR)) (hn : n ≤ n') : ORg W0 w2 bF bR bO bE mF mR n' r cnt g m fF f' vO vE free out left := by
  obtain ⟨es, c', hb⟩ := h.st.iR.isMap
  exact ⟨h.st.mapR hm hg hn, RG.mono (h.rg.kept hg (fun e => h.st.ne (by injection e)) (fun e => by
    injection e with e
    obtain ⟨m, s, q, c, hc⟩ := h.rg.iter
    rw [e, hb] at hc; cases hc)) hn, h.lr, h.hM.kept hg (fun e => h.hM.ne_map hb (by injection e))⟩
end
theorem cnt_inc {fR : Int → Option Int} {A B : List E} {c v : Int} (h : ∀ y, (fR y).getD 0 = (cnt A y : Int)) (hB : ∀ y, cnt B y = cnt A y + (if c = y then 1 else 0)) (hv : v = (cnt A c : Int) + 1) : ∀ y, (upd fR c v y).getD 0 = (cnt B y : Int) := by
  intro y
  have h1 := hB y
  unfold upd
  by_cases e : y = c
  · subst e
    rw [if_pos rfl] at h1 ⊢
    simp; omega
  · rw [if_neg e, h y]
    rw [if_neg (fun h => e h.symm)] at h1
    omega
theorem cnt_two {fR : Int → Option Int} {A B : List E} {bs t v1 v2 : Int} (h : ∀ y, (fR y).getD 0 = (cnt A y : Int)) (hB : ∀ y, cnt B y + (if t = y then 1 else 0) = cnt A y + (if bs = y then 1 else 0)) (hne : bs ≠ t) (h1 : v1 = (cnt A bs : Int) + 1) (h2 : v2 = (cnt A t : Int) - 1) : ∀ y, (upd (upd fR bs v1) t v2 y).getD 0 = (cnt B y : Int) := by
  intro y
  have h3 := hB y
  unfold upd
  by_cases e : y = t
  · subst e
    rw [if_pos rfl] at h3 ⊢
    rw [if_neg hne] at h3
    simp; omega
  · rw [if_neg e]
    rw [if_neg (fun h => e h.symm)] at h3
    by_cases e2 : y = bs
    · subst e2
      rw [if_pos rfl] at h3 ⊢
      simp; omega
    · rw [if_neg e2, h y]
      rw [if_neg (fun h => e2 h.symm)] at h3
      omega
structure L4 (L : List E) (bs : Int) (i n : Nat) (rem out : List E) (fR : Int → Option Int) : Prop where
  j : J (real L) bs rem [] out
  c : ∀ y, (fR y).getD 0 = (cnt rem y : Int)
  o : (ordF bs (L.drop i) rem out).2 = orderF bs L
  b : n ≤ 10000 + i * 10000
  l : rem.length ≤ 1000 ∧ out.length + rem.length ≤ 1000 + i
  r : ∀ e ∈ rem, inR e.1 ∧ inR e.2
theorem turn_inR {rem : List E} {bs t : Int} (hb : inR bs) (r : ∀ e ∈ rem, inR e.1 ∧ inR e.2) : ∀ e ∈ turn bs t rem, inR e.1 ∧ inR e.2 := by
  intro e he
  unfold turn at he
  obtain ⟨e', h1, rfl⟩ := List.mem_map.1 he
  split
  · exact ⟨(r e' h1).1, hb⟩
  · exact r e' h1
theorem L4.skip {L : List E} {bs : Int} {i n : Nat} {rem out : List E} {fR : Int → Option Int} (h : L4 L bs i n rem out fR) {t a : Int} (hd : L.drop i = (t, a) :: L.drop (i + 1)) (ht : t ∉ keys rem) : L4 L bs (i + 1) n rem out fR := by
  refine ⟨h.j, h.c, ?_, ?_, ⟨h.l.1, Nat.le_trans h.l.2 (by omega)⟩, h.r⟩
  rotate_left
  · exact Nat.le_trans h.b (Nat.add_le_add_left (Nat.mul_le_mul_right _ (Nat.le_succ i)) _)
  have := h.o
  rw [hd] at this
  unfold ordF at this
  rwa [if_neg ht] at this
theorem L4.wf {L : List E} {bs : Int} {i n : Nat} {rem out : List E} {fR : Int → Option Int} (h : L4 L bs i n rem out fR) {t : Int} (hb : inR bs) (ht : t ∈ keys rem) : WF (turn bs t rem) [t] :=
  ⟨(h.j.turned ht).nd, (h.j.turned ht).fnd, fun x hx => ((h.j.turned ht).fr x).1 hx, turn_inR hb h.r⟩
theorem L4.broke {L : List E} {bs : Int} {i n n' : Nat} {rem out : List E} {fR fR' : Int → Option Int} (h : L4 L bs i n rem out fR) {t a : Int} (hd : L.drop i = (t, a) :: L.drop (i + 1)) (hb : inR bs) (ht : t ∈ keys rem)
    (hc : ∀ y, (fR' y).getD 0 = (cnt (drainF rem.length (turn bs t rem) [t] (out ++ [(bs, t)])).1 y : Int)) (hn : n' ≤ n + 3 * rem.length) : L4 L bs (i + 1) n' (drainF rem.length (turn bs t rem) [t] (out ++ [(bs, t)])).1 (drainF rem.length (turn bs t rem) [t] (out ++ [(bs, t)])).2 fR' := by
  obtain ⟨g1, g2, g3, g4⟩ := break_good h.j ht
  obtain ⟨_, _, _, d4, _⟩ := drain_good rem.length _ _ _ (h.j.turned ht) (by rw [turn_len]; exact Nat.le_refl _)
  have hl := h.l
  refine ⟨g1, hc, ?_, ?_, ⟨?_, ?_⟩, fun e he => turn_inR hb h.r e (d4 e he).1⟩
  rotate_left
  · have := h.b; omega
  · change (breakF bs t rem out).1.length ≤ _; omega
  · change (breakF bs t rem out).2.length + (breakF bs t rem out).1.length ≤ _; omega
  · have := h.o
    rw [hd] at this
    unfold ordF at this
    rwa [if_pos ht] at this
theorem L4.start {L : List E} {bs : Int} {n : Nat} {fR : Int → Option Int} (hok : OkL L bs) (hl : L.length ≤ 1000) (hr : ∀ e ∈ L, inR e.1 ∧ inR e.2) (hc : ∀ y, (fR y).getD 0 = (cnt (drainF (real L).length (real L) (free0 L (real L)) []).1 y : Int)) (hn : n ≤ 5000) :
    L4 L bs 0 n (drainF (real L).length (real L) (free0 L (real L)) []).1 (drainF (real L).length (real L) (free0 L (real L)) []).2 fR := by
  have hbk : bs ∉ keys L := fun h => by obtain ⟨a, ha⟩ := mem_keys.1 h; exact (hok.2 _ ha).1 rfl
  obtain ⟨d1, d2, d3, d4, d5⟩ := drain_good (real L).length _ _ _ (start_good L bs hok.1 hbk) (Nat.le_refl _)
  have hrl : (real L).length ≤ L.length := List.length_filter_le _ _
  have hz : ([] : List E).length = 0 := rfl
  refine ⟨d1, hc, ?_, ?_, ⟨?_, ?_⟩, fun e he => hr e (List.mem_filter.1 (d4 e he).1).1⟩
  · rw [List.drop_zero]; unfold orderF first; rfl
  · omega
  · omega
  · omega
theorem start_wf {L : List E} {bs : Int} (hok : OkL L bs) (hr : ∀ e ∈ L, inR e.1 ∧ inR e.2) : WF (real L) (free0 L (real L)) := by
  have hbk : bs ∉ keys L := fun h => by obtain ⟨a, ha⟩ := mem_keys.1 h; exact (hok.2 _ ha).1 rfl
  have hj := start_good L bs hok.1 hbk
  exact ⟨hj.nd, hj.fnd, fun t ht => (hj.fr t).1 ht, fun e he => hr e (List.mem_filter.1 he).1⟩
theorem L4.done {L : List E} {bs : Int} {n i : Nat} {rem out : List E} {fR : Int → Option Int} (h : L4 L bs i n rem out fR) (hi : L.length ≤ i) : out = orderF bs L := by
  rw [← h.o, List.drop_eq_nil_of_le hi]; rfl
theorem dropE (ls : List S35) (i : Nat) (h : i < ls.length) : (ls.map toE).drop i = ((rd_T35 ls i).f0, (rd_T35 ls i).f1) :: (ls.map toE).drop (i + 1) := by
  rw [List.drop_eq_getElem_cons (by simpa using h)]
  unfold rd_T35
  simp [List.getD_eq_getElem?_getD, h, toE]
theorem all_inR {ls : List S35} (h : ∀ x ∈ ls, inR x.f0 ∧ inR x.f1) : ∀ e ∈ ls.map toE, inR e.1 ∧ inR e.2 := by
  intro e he
  obtain ⟨x, hx, rfl⟩ := List.mem_map.1 he
  exact h x hx
theorem m_kept {W0 w w5 : World} {bF bR bO bE mF mR n : Nat} {fF fR : Int → Option Int} {vO vE uO uE : Value} {free : List Int} {out : List E} {m cs : Array Value} (h : OSt W0 w bF bR bO bE mF mR n fF fR vO vE uO uE free out) (hg : ((w.alloc (.cells m 35)).alloc (.cells cs 35)).grownBy w5 uO.ownBlock) : Blk w5 w.heap.size 35 m :=
  (Blk.made w 35 m).kept (grown_alloc hg) (fun e => by have := (own_row_lt h.rO _ e.symm).1; omega)
end Go.Proofs.Ytjolnfhgiddafaa.PAll
