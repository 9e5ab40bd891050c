import Derived.Test.YtibhjlmffgabgaaZRefReached
import Derived.Test.YtibhjlmffgabgaaZClear
import Derived.StillTailTactics
namespace Go.Proofs.Ytibhjlmffgabgaa.PAll
open Go.RowKit Go.Proofs.YtibhjlmffgabgaaW.PrintWords Go.Proofs.YtibhjlmffgabgaaW.PrintLast Go.Proofs.YtibhjlmffgabgaaW.PrintMore
open Go.Proofs.Ytibhjlmffgabgaa.MapInt
set_option linter.unusedVariables false
set_option linter.unusedSimpArgs false
def kpH (shs : List S65) (S : Int → Bool) : List TH → Nat → Nat → List (Int × Int × TH)
  | [], _, _ => []
  | t :: T, b, c => if S (b : Int) = true then ((b : Int), (c : Int), t) :: kpH shs S T (b + tsz shs t.t) (c + tsz shs t.t) else kpH shs S T (b + tsz shs t.t) c
theorem kp_snoc (shs : List S65) (S : Int → Bool) (t : TH) : ∀ (D : List TH) (b c : Nat), kpH shs S (D ++ [t]) b c = kpH shs S D b c ++ (if S ((b + sumT shs (D.map (·.t)) : Nat) : Int) = true then [(((b + sumT shs (D.map (·.t)) : Nat) : Int), ((c + sumT shs (keepT shs S (D.map (·.t)) b) : Nat) : Int), t)] else [])
  | [], b, c => by simp only [List.nil_append, kpH, sumT, List.map_nil, List.sum_nil, Nat.add_zero, keepT]
  | u :: D, b, c => by
    rw [List.cons_append]
    unfold kpH
    rw [List.map_cons]
    unfold keepT
    rw [sum_cons, ← Nat.add_assoc]
    by_cases h : S (b : Int) = true
    · rw [if_pos h, if_pos h, if_pos h, kp_snoc shs S t D, sum_cons, ← Nat.add_assoc, List.cons_append]
    · rw [if_neg h, if_neg h, if_neg h, kp_snoc shs S t D]
theorem kp_t (shs : List S65) (S : Int → Bool) : ∀ (T : List TH) (b c : Nat), (kpH shs S T b c).map (fun p => p.2.2.t) = keepT shs S (T.map (·.t)) b
  | [], _, _ => rfl
  | t :: T, b, c => by
    rw [List.map_cons]
    unfold kpH keepT
    split
    · rw [List.map_cons, kp_t shs S T]
    · exact kp_t shs S T _ _
theorem kp_mov (shs : List S65) (S : Int → Bool) (x : Int) : ∀ (T : List TH) (b c : Nat), movF ((kpH shs S T b c).map (fun p => p.1)) ((kpH shs S T b c).map (fun p => p.2.1)) x = ref1 (toF shs S (T.map (·.t)) b c) x
  | [], _, _ => rfl
  | t :: T, b, c => by
    rw [List.map_cons]
    have ih1 := kp_mov shs S x T (b + tsz shs t.t) (c + tsz shs t.t)
    have ih2 := kp_mov shs S x T (b + tsz shs t.t) c
    unfold ref1 at *
    unfold kpH toF
    split
    · rw [List.map_cons, List.map_cons]
      unfold movF
      by_cases h : (b : Int) = x
      · rw [if_pos h, if_pos h.symm]; rfl
      · rw [if_neg h, if_neg (fun e => h e.symm)]; exact ih1
    · exact ih2
theorem kp_sub (shs : List S65) (S : Int → Bool) : ∀ (T : List TH) (b c : Nat), ((kpH shs S T b c).map (fun p => p.2.2)).Sublist T
  | [], _, _ => by simp [kpH]
  | t :: T, b, c => by
    unfold kpH
    split
    · rw [List.map_cons]; exact (kp_sub shs S T _ _).cons_cons t
    · exact (kp_sub shs S T _ _).cons t
structure RC (w : World) (base B : Nat) (Q K : Nat → Prop) (g : Nat) (most : Int) (ls : List SH) (mv : Int) (shV thV v6 v7 v10 : Value) (old now : List Int) (xl : List TH) : Prop where
  m0 : RM0 w base Q K g most ls mv shV thV
  o6 : w.ownsRow B 3 1 v6 old.length (nums .i64 old)
  o7 : w.ownsRow B 3 1 v7 now.length (nums .i64 now)
  o10 : w.ownsRow B 76 2 v10 xl.length (xl.flatMap thC)
  wds : ∀ t ∈ xl, Blk w t.b 2 (wC t.t.xs) ∧ Q t.b
  nd : (xl.map (·.b)).Nodup
section
variable {w w2 : World} {base B g : Nat} {Q K : Nat → Prop} {most mv : Int} {ls : List SH} {shV thV v6 v7 v10 : Value} {old now : List Int} {xl : List TH}
theorem RC.below (h : RC w base B Q K g most ls mv shV thV v6 v7 v10 old now xl) (hb : Below w.heap.size w w2) : RC w2 base B Q K g most ls mv shV thV v6 v7 v10 old now xl :=
  ⟨h.m0.below hb, own_below h.o6 hb, own_below h.o7 hb, own_below h.o10 hb, fun t ht => ⟨(h.wds t ht).1.below hb, (h.wds t ht).2⟩, h.nd⟩
theorem RC.putw (h : RC w base B Q K g most ls mv shV thV v6 v7 v10 old now xl) {k : Nat} {t : TH} (ht : xl[k]? = some t) {xs : List Int} (hl : xs.length = t.t.xs.length) (hb : Blk w2 t.b 2 (wC xs)) (hg : w.grownBy w2 (some t.b)) : RC w2 base B Q K g most ls mv shV thV v6 v7 v10 old now (xl.set k ⟨⟨t.t.s, xs⟩, t.b⟩) := by
  have hm := List.mem_of_getElem? ht
  have hw := (h.wds t hm).1
  have hq := (h.wds t hm).2
  have hth : thC ⟨⟨t.t.s, xs⟩, t.b⟩ = thC t := by unfold thC; dsimp only; rw [hl]
  refine ⟨h.m0.kept hg.size (fun k hk hc => hg.block k hk (fun e => ?_)), own_kept h.o6 hg (fun k hk e => own_ne_cells h.o6 hw (by decide) (e ▸ hk.symm)), own_kept h.o7 hg (fun k hk e => own_ne_cells h.o7 hw (by decide) (e ▸ hk.symm)), ?_, ?_, ?_⟩
  · injection e with e
    rcases hc with h1 | h1 | h1
    · exact h.m0.box.ne_type hw (by decide) (by rw [← h1, e])
    · exact own_ne_cells h.m0.sh hw (by decide) (by rw [h1, e])
    · exact h.m0.qk k (by rw [e]; exact hq) h1
  · rw [List.length_set, flat_set thC xl k t _ ht hth]
    exact own_kept h.o10 hg (fun k hk e => own_ne_cells h.o10 hw (by decide) (e ▸ hk.symm))
  · intro u hu
    obtain ⟨j, hj⟩ := List.getElem?_of_mem hu
    rw [List.getElem?_set] at hj
    split at hj
    · split at hj
      · injection hj with hj; subst hj
        exact ⟨hb, hq⟩
      · cases hj
    · rename_i hkj
      have hu2 := List.mem_of_getElem? hj
      exact ⟨(h.wds u hu2).1.kept hg (fun e => nd_ne h.nd hj ht (fun e2 => hkj e2.symm) (by injection e)), (h.wds u hu2).2⟩
  · rw [map_set_same (·.b) xl k t ⟨⟨t.t.s, xs⟩, t.b⟩ ht rfl]; exact h.nd
theorem RC.thing (h : RC w base B Q K g most ls mv shV thV v6 v7 v10 old now xl) {i : Nat} {t : TH} (hs : xl[i]? = some t) : ∃ ad c, v10 = .slice (some ad) xl.length c ∧ w.cell? (ad.add (i * 2)) = some (.int .i64 (t.t.s : Int)) ∧ w.cell? ⟨(ad.add (i * 2)).block, (ad.add (i * 2)).off + 1, none⟩ = some (.slice (some ⟨t.b, 0, none⟩) t.t.xs.length t.t.xs.length) := by
  obtain ⟨A, c, rfl, hR⟩ := own_reads_row h.o10 (reps2 thC (fun _ => rfl) xl) rfl
  have hlt := (List.getElem?_eq_some_iff.1 hs).1
  obtain ⟨_, _, h3⟩ := hR
  obtain ⟨ad, rfl, h4⟩ := h3 (by omega)
  obtain ⟨c2, _, rfl, h5⟩ := h4 i t hs
  exact ⟨ad, c, rfl, h5 0 _ rfl, by rw [← add_field _ _ 1 (by omega)]; exact h5 1 _ rfl⟩
end
def xlAt (shs : List S65) (F : Int → Option Int) (kl : List TH) (i k : Nat) : List TH := kl.mapIdx (fun j t => if j < i then ⟨mvT shs F t.t, t.b⟩ else if j = i then ⟨⟨t.t.s, mvN shs F t.t k⟩, t.b⟩ else t)
section
variable {shs : List S65} {F : Int → Option Int} {kl : List TH}
theorem xl_len (i k : Nat) : (xlAt shs F kl i k).length = kl.length := by unfold xlAt; simp
theorem xl_zero : xlAt shs F kl 0 0 = kl := by
  apply List.ext_getElem?
  intro j
  unfold xlAt
  rw [List.getElem?_mapIdx]
  cases h : kl[j]? with
  | none => rfl
  | some t =>
    simp only [Option.map_some]
    rw [if_neg (by omega)]
    split
    · rw [mvN_zero]
    · rfl
theorem xl_at {i k : Nat} {t : TH} (h : kl[i]? = some t) : (xlAt shs F kl i k)[i]? = some ⟨⟨t.t.s, mvN shs F t.t k⟩, t.b⟩ := by
  unfold xlAt
  rw [List.getElem?_mapIdx, h, Option.map_some, if_neg (by omega), if_pos rfl]
theorem xl_skip {i k : Nat} {t : TH} (h : kl[i]? = some t) (hr : isR shs t.t k = false) : xlAt shs F kl i (k + 1) = xlAt shs F kl i k := by
  apply List.ext_getElem?
  intro j
  unfold xlAt
  rw [List.getElem?_mapIdx, List.getElem?_mapIdx]
  by_cases e : j = i
  · subst e; rw [h, Option.map_some, Option.map_some, if_neg (by omega), if_pos rfl, if_neg (by omega), if_pos rfl, mvN_skip shs F t.t k hr]
  · simp [e]
theorem xl_step {i k : Nat} {t : TH} (h : kl[i]? = some t) (hk : k < t.t.xs.length) (hr : isR shs t.t k = true) : (xlAt shs F kl i k).set i ⟨⟨t.t.s, (mvN shs F t.t k).set k (ref1 F (t.t.xs.getD k 0))⟩, t.b⟩ = xlAt shs F kl i (k + 1) := by
  apply List.ext_getElem?
  intro j
  have hi := (List.getElem?_eq_some_iff.1 h).1
  rw [List.getElem?_set, xl_len]
  by_cases e : i = j
  · subst e
    rw [if_pos rfl, if_pos hi, xl_at h, mvN_step shs F t.t k hk hr]
  · rw [if_neg e]
    unfold xlAt
    rw [List.getElem?_mapIdx, List.getElem?_mapIdx]
    have e2 : ¬ j = i := fun e2 => e e2.symm
    simp [e2]
theorem xl_next {i : Nat} {t : TH} (h : kl[i]? = some t) : xlAt shs F kl i t.t.xs.length = xlAt shs F kl (i + 1) 0 := by
  apply List.ext_getElem?
  intro j
  unfold xlAt
  rw [List.getElem?_mapIdx, List.getElem?_mapIdx]
  cases hj : kl[j]? with
  | none => rfl
  | some u =>
    simp only [Option.map_some]
    by_cases h1 : j < i
    · rw [if_pos h1, if_pos (by omega)]
    · by_cases h2 : j = i
      · subst h2
        rw [h] at hj; injection hj with hj; subst hj
        rw [if_neg h1, if_pos rfl, if_pos (by omega)]; rfl
      · rw [if_neg h1, if_neg h2, if_neg (by omega)]
        split
        · rw [mvN_zero]
        · rfl
theorem xl_end : xlAt shs F kl kl.length 0 = kl.map (fun t => ⟨mvT shs F t.t, t.b⟩) := by
  apply List.ext_getElem?
  intro j
  unfold xlAt
  rw [List.getElem?_mapIdx, List.getElem?_map]
  cases hj : kl[j]? with
  | none => rfl
  | some u =>
    have := (List.getElem?_eq_some_iff.1 hj).1
    simp only [Option.map_some]
    rw [if_pos (by omega)]
end
structure R1 (w wr : World) (B b5 : Nat) (bs : List Bool) (v6 v7 v10 : Value) (o n : List Int) (kl : List TH) : Prop where
  bel : Below w.heap.size w wr
  hB : B ≤ wr.heap.size
  box5 : Blk wr b5 4 (bC bs)
  o6 : wr.ownsRow B 3 1 v6 o.length (nums .i64 o)
  o7 : wr.ownsRow B 3 1 v7 n.length (nums .i64 n)
  o10 : wr.ownsRow B 76 2 v10 kl.length (kl.flatMap thC)
  sep : ∀ k, v6.ownBlock = some k → v7.ownBlock ≠ some k
section
variable {w wr w2 : World} {B b5 : Nat} {bs : List Bool} {v6 v7 v10 v' : Value} {o n : List Int} {kl : List TH}
theorem R1.below (h : R1 w wr B b5 bs v6 v7 v10 o n kl) (hb : Below wr.heap.size wr w2) : R1 w w2 B b5 bs v6 v7 v10 o n kl :=
  ⟨below_step h.bel hb, Nat.le_trans h.hB hb.size, h.box5.below hb, own_below h.o6 hb, own_below h.o7 hb, own_below h.o10 hb, h.sep⟩
theorem R1.push6 {x : Int} {ob : Obj} {cs : List Value} (h : R1 w wr B b5 bs v6 v7 v10 o n kl) (hW : w.heap.size ≤ B) (hc : cs = [.int .i64 x]) (ho : w2.ownsRow B 3 1 v' (o.length + 1) (nums .i64 o ++ cs)) (hg : (wr.alloc ob).grownBy w2 v6.ownBlock) (hat : v'.ownBlock = v6.ownBlock ∨ v'.ownBlock = some (wr.heap.size + 1)) : R1 w w2 B b5 bs v' v7 v10 (o ++ [x]) n kl := by
  subst hc
  have e : nums .i64 (o ++ [x]) = nums .i64 o ++ [.int .i64 x] := by unfold nums; simp
  have hs := hg.size
  have h0 := h.hB
  simp at hs
  refine ⟨(h.bel.alloc h.bel.size ob).grown hg (Nat.le_trans h.bel.size (by simp)) (fun k hk => Nat.le_trans hW (own_row_lt h.o6 k hk).2), by omega, (h.box5.alloc ob).kept hg (own_ne_cells h.o6 h.box5 (by decide)), by rw [e, List.length_append]; exact ho, own_kept (own_alloc' h.o7 ob) hg (fun k hk e => h.sep k e.symm hk), own_kept (own_alloc' h.o10 ob) hg (own_apart h.o10 h.o6 (by decide)), fun k hk hk7 => ?_⟩
  rcases hat with h1 | h1
  · exact h.sep k (by rw [← h1]; exact hk) hk7
  · rw [h1] at hk; injection hk with hk
    have := (own_row_lt h.o7 k hk7).1
    omega
theorem R1.push7 {x : Int} {ob : Obj} {cs : List Value} (h : R1 w wr B b5 bs v6 v7 v10 o n kl) (hW : w.heap.size ≤ B) (hc : cs = [.int .i64 x]) (ho : w2.ownsRow B 3 1 v' (n.length + 1) (nums .i64 n ++ cs)) (hg : (wr.alloc ob).grownBy w2 v7.ownBlock) (hat : v'.ownBlock = v7.ownBlock ∨ v'.ownBlock = some (wr.heap.size + 1)) : R1 w w2 B b5 bs v6 v' v10 o (n ++ [x]) kl := by
  subst hc
  have e : nums .i64 (n ++ [x]) = nums .i64 n ++ [.int .i64 x] := by unfold nums; simp
  have hs := hg.size
  have h0 := h.hB
  simp at hs
  refine ⟨(h.bel.alloc h.bel.size ob).grown hg (Nat.le_trans h.bel.size (by simp)) (fun k hk => Nat.le_trans hW (own_row_lt h.o7 k hk).2), by omega, (h.box5.alloc ob).kept hg (own_ne_cells h.o7 h.box5 (by decide)), own_kept (own_alloc' h.o6 ob) hg (fun k hk e => h.sep k hk e.symm), by rw [e, List.length_append]; exact ho, own_kept (own_alloc' h.o10 ob) hg (own_apart h.o10 h.o7 (by decide)), fun k hk hk7 => ?_⟩
  rcases hat with h1 | h1
  · exact h.sep k hk (by rw [← h1]; exact hk7)
  · rw [h1] at hk7; injection hk7 with hk7
    have := (own_row_lt h.o6 k hk).1
    omega
theorem R1.push10 {t : TH} {ob : Obj} {cs : List Value} (h : R1 w wr B b5 bs v6 v7 v10 o n kl) (hW : w.heap.size ≤ B) (hc : cs = thC t) (ho : w2.ownsRow B 76 2 v' (kl.length + 1) (kl.flatMap thC ++ cs)) (hg : (wr.alloc ob).grownBy w2 v10.ownBlock) : R1 w w2 B b5 bs v6 v7 v' o n (kl ++ [t]) := by
  subst hc
  have hs := hg.size
  have h0 := h.hB
  simp at hs
  exact ⟨(h.bel.alloc h.bel.size ob).grown hg (Nat.le_trans h.bel.size (by simp)) (fun k hk => Nat.le_trans hW (own_row_lt h.o10 k hk).2), by omega, (h.box5.alloc ob).kept hg (own_ne_cells h.o10 h.box5 (by decide)), own_kept (own_alloc' h.o6 ob) hg (own_apart h.o6 h.o10 (by decide)), own_kept (own_alloc' h.o7 ob) hg (own_apart h.o7 h.o10 (by decide)), by rw [List.length_append, List.flatMap_append]; simpa using ho, h.sep⟩
end
section
variable {w w2 : World} {base B g : Nat} {Q K : Nat → Prop} {most mv : Int} {ls : List SH} {shV thV v' v6 v7 v10 : Value} {old now : List Int} {xl : List TH}
theorem RC.setTh (h : RC w base B Q K g most ls mv shV thV v6 v7 v10 old now xl) (hb : Blk w2 g 55 #[.int .i64 most, shV, v', .int .i64 mv]) (hg : w.grownBy w2 (some g)) : RC w2 base B Q K g most ls mv shV v' v6 v7 v10 old now xl := by
  have hbox := h.m0.box
  refine ⟨⟨hb, own_kept h.m0.sh hg (fun k hk e => own_ne_cells h.m0.sh hbox (by decide) (e ▸ hk.symm)), fun l hl => ⟨Kd.F_step (h.m0.kin l hl).1 (fun k ho hlk => hg.block k hlk (fun e => h.m0.qk k (by injection e with e; rw [e]; exact h.m0.qg) ho)), (h.m0.kin l hl).2⟩, h.m0.qg, h.m0.qs, fun k hk => Nat.lt_of_lt_of_le (h.m0.lt k hk) hg.size, fun k hk => Nat.lt_of_lt_of_le (h.m0.kl k hk) hg.size, h.m0.qk⟩, own_kept h.o6 hg (fun k hk e => own_ne_cells h.o6 hbox (by decide) (e ▸ hk.symm)), own_kept h.o7 hg (fun k hk e => own_ne_cells h.o7 hbox (by decide) (e ▸ hk.symm)), own_kept h.o10 hg (fun k hk e => own_ne_cells h.o10 hbox (by decide) (e ▸ hk.symm)), fun t ht => ⟨(h.wds t ht).1.kept hg (fun e => hbox.ne_type (h.wds t ht).1 (by decide) (by injection e with e; exact e.symm)), (h.wds t ht).2⟩, h.nd⟩
theorem RC.fin {w0 : World} (h : RC w base B Q K g most ls mv shV v10 v6 v7 v10 old now xl) (hb : base ≤ B) (hB : w0.heap.size ≤ B) (hs : w0.heap.size ≤ w.heap.size) (hk : ∀ k, K k → k < w0.heap.size) : RM w base (PX Q w0 w) K g most ls xl mv shV v10 :=
  ⟨h.m0.box, h.m0.sh, own_lower h.o10 hb, h.m0.kin, fun t ht => ⟨(h.wds t ht).1, .inl (h.wds t ht).2⟩, h.nd, .inl h.m0.qg, fun k e => .inl (h.m0.qs k e), fun k e => .inr ⟨Nat.le_trans hB (own_row_lt h.o10 k e).2, (own_row_lt h.o10 k e).1⟩, fun k hq => hq.elim (h.m0.lt k) (fun h2 => h2.2), h.m0.kl, fun k hq hkk => hq.elim (fun h1 => h.m0.qk k h1 hkk) (fun h1 => by have := hk k hkk; omega)⟩
end
section
variable {P : Program} {ops : Array Oper} {o : Oper} {a : Act} {Kc : Act → World → Prop} {Q' : Exit → Act → World → Prop} {E : Prop} {W : World}
end
section
variable {w : World}
set_option maxHeartbeats 8000000 in
set_option maxRecDepth 100000 in
theorem rmoved_still {A0 A1 : Option Addr} {c0 c1 : Nat} {os ns : List Int} (h0 : Kd.C (Kd.int .i64) w A0 os.length os) (h1 : Kd.C (Kd.int .i64) w A1 ns.length ns) (hl : os.length = ns.length) (hlt : os.length ≤ 100000) (x : Int) :
    Calls Try.prog 46 #[.slice A0 os.length c0, .slice A1 ns.length c1, .int .i64 x] w fun e w' => e = .returned (.int .i64 (movF os ns x)) ∧ w' = w := by
  have H0 := Aside0.mk h0
  have H1 := Aside0.mk h1
  clear h0 h1
  obtain ⟨r, hr⟩ : ∃ r, r = movF os ns x := ⟨_, rfl⟩
  rw [← hr]
  have HE := Aside0.mk hr
  clear hr
  go_enter Try.func46, Try.ntmps46
  go_wp2_with fail
  (try go_frame)
  go_loopg [7] (os.length) (fun k v7 wr => ∃ i : Nat, i + k = os.length ∧ v7 = .int .i64 (i : Int) ∧ Aside0 (∀ j, j < i → os.getD j 0 ≠ x) ∧ Aside0 (wr = w))
  case atStart => exact ⟨0, by omega, rfl, ⟨fun j hj => by omega⟩, ⟨rfl⟩⟩
  case round =>
    obtain ⟨i, hik, rfl, HN, HR⟩ := hrel
    have q2 : (0 : Int) ≤ (i : Int) := by omega
    by_cases hi : i < os.length
    · obtain ⟨ad, rfl, y0⟩ := Kd.at_int (HR.out ▸ H0.out : Kd.C (Kd.int .i64) wr _ _ _) (i : Int) (by omega) (by omega)
      obtain ⟨ad1, rfl, y1⟩ := Kd.at_int (HR.out ▸ H1.out : Kd.C (Kd.int .i64) wr _ _ _) (i : Int) (by omega) (by omega)
      have e0 : rd os (i : Int) = os.getD i 0 := by unfold rd; rw [Int.toNat_natCast]
      have e1 : rd ns (i : Int) = ns.getD i 0 := by unfold rd; rw [Int.toNat_natCast]
      rw [Int.toNat_natCast, e0] at y0
      rw [Int.toNat_natCast, e1] at y1
      have q1 : (i : Int) < (os.length : Int) := by omega
      have q3 : (i : Int) < (ns.length : Int) := by omega
      clear e0 e1
      obtain ⟨a0, ha0⟩ : ∃ a0, os.getD i 0 = a0 := ⟨_, rfl⟩
      by_cases hx : a0 = x
      · have HV : Aside0 (ns.getD i 0 = r) := ⟨by rw [HE.out]; exact (mov_at os ns x i hl hi HN.out (by rw [ha0, hx])).symm⟩
        rw [ha0, hx] at y0
        rw [HV.out] at y1
        clear ha0 hx
        go_wp2_with fail
        (try go_ret)
        exact ⟨rfl, HR.out⟩
      · have hxb : (a0 == x) = false := by simp; exact hx
        have HN2 : Aside0 (∀ j, j < i + 1 → os.getD j 0 ≠ x) := ⟨fun j hj => by
          by_cases hji : j = i
          · subst hji; rw [ha0]; exact hx
          · exact HN.out j (by omega)⟩
        rw [ha0] at y0
        generalize ns.getD i 0 = v at *
        clear ha0 hx
        go_wp2_with fail
        go_roundg (os.length - (i + 1))
        case measure => omega
        case rel => exact ⟨i + 1, by omega, by go_num, HN2, HR⟩
    · have hge : os.length ≤ i := by omega
      have HV : r = 0 := by rw [HE.out]; exact mov_none os ns x (fun j hj => HN.out j (by omega))
      subst HV
      go_wp2_with fail
      (try go_ret)
      exact ⟨rfl, HR.out⟩
end
end Go.Proofs.Ytibhjlmffgabgaa.PAll
