import Derived.Test.YtibhjlmffgabgaaZShapes
import Derived.BigRegion
namespace Go.Proofs.Ytibhjlmffgabgaa.PAll
open Go.RowKit Go.Proofs.YtibhjlmffgabgaaW.PrintWords Go.Proofs.YtibhjlmffgabgaaW.PrintLast Go.Proofs.YtibhjlmffgabgaaW.PrintMore
open Go.Proofs.Ytibhjlmffgabgaa.MapInt
set_option linter.unusedVariables false
set_option linter.unusedSimpArgs false
theorem zeros_one (z : Value) (n : Nat) : (Builtin.zeroCells #[z] n).toList = List.replicate n z := by
  apply List.ext_getElem?
  intro i
  unfold Builtin.zeroCells
  by_cases h : i < n
  · simp [h, Nat.mod_one]
  · simp [h]
theorem clear_blk {P : Program} {w : World} {ops : Array Oper} {rest : List Oper} {o : Oper} {a : Act} {Q : Exit → Act → World → Prop} {g e : Nat} {cs : Array Value} (hgd : o.guard = none) (hd : o.dst = none) (x : Operand) (t : TypeId) (hop : o.op = .call { callee := .builtin .clear, args := #[x], argTypes := #[t] })
    {e2 : TypeId} (ht : P.underlying t = some (.slice e2)) {z : Value} (hi : (P.info? e2).map (·.zero) = some (some z)) (hz : z.cells = #[z]) (h1 : z.oneCell' = true) {o' n c : Nat} (hx : a.eval x = .slice (some ⟨g, o', none⟩) n c) (hb : Blk w g e cs) (hfit : o' + n ≤ cs.size)
    (hK : ∀ w', Blk w' g e (putL cs o' (List.replicate n z)) → w.grownBy w' (some g) → wpList P ops Q rest a w') : wpList P ops Q (o :: rest) a w := by
  have hput : a.put o.dst (.tuple #[]) = a := by rw [hd]; rfl
  refine wpList_plain hgd fun K hK' => ?_
  cases hp : P.info? e2 with
  | none => simp [hp] at hi
  | some i =>
    have hiz : i.zero = some z := by simpa [hp] using hi
    have hrun : (Builtin.clear_ #[t] o.type #[.slice (some ⟨g, o', none⟩) n c]).run P w = .ok (.tuple #[]) (w.setCells g o' (List.replicate n z)) := by
      cases n with
      | zero => simp [Builtin.clear_, run_underlying ht, World.setCells, Result.andThen]
      | succ n =>
        have hth := there_blk hb
        have hst := run_storeCells_cells (P := P) g o' (List.replicate (n + 1) z) 0 w (fun j hj => by
            rw [List.length_replicate] at hj
            have := (hth (o' + j) (by omega)).1
            simpa using this) (fun j hj => by
            rw [List.length_replicate] at hj
            have := (hth (o' + j) (by omega)).2
            simpa using this) (fun v hv => by rw [List.eq_of_mem_replicate hv]; exact h1)
        simp only [Nat.add_zero] at hst
        simp [Builtin.clear_, run_underlying ht, zeroValue, typeInfo, hp, hiz, hz, zeros_one, hst, Result.andThen]
    unfold Oper.wp
    simp [execOp, hop, resolve, invoke, builtin, hx, hrun, Result.andThen]
    show K (a.put o.dst (.tuple #[])) _
    rw [hput]
    obtain ⟨h2, h3, _⟩ := setCells_blk (List.replicate n z) w cs o' hb (by rw [List.length_replicate]; exact hfit)
    exact hK' _ _ (hK _ h2 h3)
theorem putL_map {α : Type} (f : α → Value) (l vs : List α) (o : Nat) (h : o + vs.length ≤ l.length) : putL (l.map f).toArray o (vs.map f) = ((l.take o ++ vs ++ l.drop (o + vs.length)).map f).toArray := by
  apply Array.ext_getElem?
  intro j
  rw [putL_at _ _ _ _ (by simp; exact h), List.length_map]
  simp only [List.getElem?_toArray, List.getElem?_map]
  have hto : (l.take o).length = o := by rw [List.length_take]; omega
  by_cases h1 : o ≤ j ∧ j < o + vs.length
  · rw [if_pos h1, List.append_assoc, List.getElem?_append_right (by omega), hto, List.getElem?_append_left (by omega)]
  · rw [if_neg h1]
    by_cases h2 : j < o
    · rw [List.append_assoc, List.getElem?_append_left (by omega), List.getElem?_take, if_pos h2]
    · rw [List.getElem?_append_right (by rw [List.length_append]; omega), List.length_append, hto, List.getElem?_drop]
      congr 2
      omega
theorem wC_clear (l : List Int) (o n : Nat) (h : o + n ≤ l.length) : putL (wC l) o (List.replicate n (.int .i64 0)) = wC (l.take o ++ List.replicate n 0 ++ l.drop (o + n)) := by
  have := putL_map (Value.int .i64) l (List.replicate n 0) o (by simpa using h)
  rw [List.map_replicate, List.length_replicate] at this
  exact this
theorem bC_clear (l : List Bool) (o n : Nat) (h : o + n ≤ l.length) : putL (bC l) o (List.replicate n (.bool false)) = bC (l.take o ++ List.replicate n false ++ l.drop (o + n)) := by
  have := putL_map Value.bool l (List.replicate n false) o (by simpa using h)
  rw [List.map_replicate, List.length_replicate] at this
  exact this
def newT (shs : List S65) (s n : Int) : Thg := ⟨s.toNat, List.replicate (if (shOf shs s.toNat).f1 = true then n.toNat else (shOf shs s.toNat).f0.length) 0⟩
def makeF (most : Nat) (shs : List S65) (T : List Thg) (s n : Int) : List Thg × Int :=
  if sizeF shs s n < 0 ∨ freeF most shs T < sizeF shs s n then (T, 0) else (T ++ [newT shs s n], 1 + sumT shs T)
theorem new_ok {shs : List S65} {s n : Int} (hl : ∀ s, (shOf shs s).f0.length ≤ 1000) (h : ¬ sizeF shs s n < 0) : okT shs (newT shs s n) ∧ (tsz shs (newT shs s n) : Int) = sizeF shs s n ∧ 0 ≤ s ∧ s < shs.length ∧ ((shOf shs s.toNat).f1 = true → 0 ≤ n ∧ n ≤ 131072) := by
  unfold sizeF at *
  split at h
  · exact absurd (by decide) h
  · rename_i h1
    have h2 := hl s.toNat
    have hlen : (newT shs s n).xs.length = if (shOf shs s.toNat).f1 = true then n.toNat else (shOf shs s.toNat).f0.length := by unfold newT; simp
    have hs : (newT shs s n).s = s.toNat := rfl
    rw [if_neg h1]
    refine ⟨⟨by rw [hs]; omega, fun h3 => ?_, ?_⟩, ?_, by omega, by omega, fun _ => by omega⟩
    · rw [hs] at h3 ⊢; rw [hlen, h3]; rfl
    · rw [hlen]; split <;> omega
    · unfold tsz
      rw [hs, hlen]
      split <;> (push_cast; omega)
theorem enc_new (shs : List S65) (s n : Int) (a : List Int) : encT shs (newT shs s n) = (if (shOf shs s.toNat).f1 = true then [(s.toNat : Int), (n.toNat : Int)] else [(s.toNat : Int)]) ++ List.replicate (if (shOf shs s.toNat).f1 = true then n.toNat else (shOf shs s.toNat).f0.length) 0 := by
  unfold encT newT
  simp only [List.length_replicate]
  split
  · rename_i h; simp [h]
  · rename_i h; simp [h]
theorem make_words {shs : List S65} {T : List Thg} {w0 : Int} {junk : List Int} {s n : Int} {z : Nat} (hz : tsz shs (newT shs s n) = z) (hj : z ≤ junk.length) (hs : 0 ≤ s) (hn : (shOf shs s.toNat).f1 = true → 0 ≤ n) :
    let a := 1 + sumT shs T
    let ws := [w0] ++ T.flatMap (encT shs) ++ junk
    let ws2 := (ws.take a ++ List.replicate z 0 ++ ws.drop (a + z)).set a s
    (if (shOf shs s.toNat).f1 = true then ws2.set (a + 1) n else ws2) = [w0] ++ (T ++ [newT shs s n]).flatMap (encT shs) ++ junk.drop z := by
  intro a ws ws2
  have hF : ([w0] ++ T.flatMap (encT shs)).length = a := by rw [List.length_append, flat_len]; rfl
  have h1 : ws.take a = [w0] ++ T.flatMap (encT shs) := by
    show ([w0] ++ T.flatMap (encT shs) ++ junk).take a = _
    rw [← hF, List.take_left]
  have h2 : ws.drop (a + z) = junk.drop z := by
    show ([w0] ++ T.flatMap (encT shs) ++ junk).drop (a + z) = _
    rw [← hF, List.drop_append]
    simp
  have h3 : ws2 = [w0] ++ T.flatMap (encT shs) ++ ((List.replicate z 0).set 0 s ++ junk.drop z) := by
    show ((ws.take a ++ List.replicate z 0 ++ ws.drop (a + z)).set a s) = _
    have hz0 : 0 < z := by rw [← hz]; exact tsz_pos _ _
    rw [h1, h2, List.append_assoc, List.set_append_right _ _ (by omega), hF, Nat.sub_self, List.set_append_left _ _ (by simpa using hz0)]
  have hs2 : ((s.toNat : Nat) : Int) = s := by omega
  rw [h3, List.flatMap_append, List.flatMap_cons, List.flatMap_nil, List.append_nil, enc_new shs s n []]
  unfold tsz at hz
  have hss : (newT shs s n).s = s.toNat := rfl
  have hlen : (newT shs s n).xs.length = if (shOf shs s.toNat).f1 = true then n.toNat else (shOf shs s.toNat).f0.length := by unfold newT; simp
  rw [hss, hlen] at hz
  split
  · rename_i h4
    rw [if_pos h4, if_pos h4] at hz
    have hn2 : ((n.toNat : Nat) : Int) = n := by have := hn h4; omega
    subst hz
    rw [List.set_append_right _ _ (by omega), hF, show a + 1 - a = 1 by omega, List.set_append_left _ _ (by simp; omega)]
    rw [show 2 + n.toNat = n.toNat + 1 + 1 by omega, List.replicate_succ, List.replicate_succ]
    simp [hs2, hn2]
  · rename_i h4
    rw [if_neg h4, if_neg h4] at hz
    subst hz
    rw [show 1 + (shOf shs s.toNat).f0.length = (shOf shs s.toNat).f0.length + 1 by omega, List.replicate_succ]
    simp [hs2]
theorem make_begs {shs : List S65} {T : List Thg} {most : Nat} {s n : Int} {z : Nat} (hz : tsz shs (newT shs s n) = z) (hr : sumT shs T + z ≤ most) :
    ([false] ++ T.flatMap (begT shs) ++ List.replicate (most - sumT shs T) false).set (1 + sumT shs T) true = [false] ++ (T ++ [newT shs s n]).flatMap (begT shs) ++ List.replicate (most - sumT shs (T ++ [newT shs s n])) false := by
  have hF : ([false] ++ T.flatMap (begT shs)).length = 1 + sumT shs T := by rw [List.length_append, begs_len]; rfl
  have hz0 : 0 < z := by rw [← hz]; exact tsz_pos _ _
  have hsum : sumT shs (T ++ [newT shs s n]) = sumT shs T + z := by unfold sumT; rw [List.map_append, List.sum_append]; simp [hz]
  rw [List.set_append_right _ _ (by omega), hF, Nat.sub_self, List.flatMap_append, List.flatMap_cons, List.flatMap_nil, List.append_nil, hsum]
  unfold begT
  rw [hz]
  obtain ⟨k, hk⟩ : ∃ k, most - sumT shs T = k + 1 := ⟨most - sumT shs T - 1, by omega⟩
  rw [hk, List.replicate_succ, List.set_cons_zero]
  simp only [List.append_assoc, List.cons_append, List.nil_append]
  congr 3
  rw [List.replicate_append_replicate]
  congr 1
  omega
theorem info2z : (Try.prog.info? 2).map (·.zero) = some (some (.int .i64 0)) := by kernel_rfl
theorem info4z : (Try.prog.info? 4).map (·.zero) = some (some (.bool false)) := by kernel_rfl
theorem size_le (shs : List S65) (s n : Int) (hl : ∀ s, (shOf shs s).f0.length ≤ 1000) : sizeF shs s n ≤ 200000 := by
  unfold sizeF
  split
  · omega
  · have := hl s.toNat
    split <;> omega
set_option maxHeartbeats 8000000 in
set_option maxRecDepth 100000 in
theorem make_bad {w : World} {base g most : Nat} {P : Nat → Prop} {shs : List S65} {T : List Thg} {mv : Int} (h : AS w base P g most shs T mv) (s n : Int) (hb : sizeF shs s n < 0 ∨ freeF most shs T < sizeF shs s n) :
    Calls Try.prog 12 #[.pointer (some ⟨g, 0, none⟩), .int .i64 s, .int .i64 n] w fun e w' => e = .returned (.int .i64 0) ∧ AS w' base P g most shs T mv ∧ Chg P w w' := by
  have HZ := Aside0.mk (size_calls h s n)
  have HS := Aside0.mk h
  generalize sizeF shs s n = z at *
  by_cases h1 : z < 0
  · clear h hb
    go_enter Try.func12, Try.ntmps12
    go_wp2_with (first | (go_at_call 25; (with_reducible refine (HZ.out).mono ?_); rintro e w1 ⟨rfl, hb⟩; have HB := Aside0.mk hb; clear hb))
    (try go_ret)
    exact ⟨rfl, HS.out.below HB.out, Chg.of_below HB.out⟩
  · have h2 : freeF most shs T < z := by rcases hb with hb | hb
                                         · omega
                                         · exact hb
    clear h hb
    generalize hF : freeF most shs T = F at *
    go_enter Try.func12, Try.ntmps12
    go_wp2_with (first | (go_at_call 25; (with_reducible refine (HZ.out).mono ?_); rintro e w1 ⟨rfl, hb⟩; have HB := Aside0.mk hb; have HF := Aside0.mk (free_calls (HS.out.below hb)); rw [hF] at HF; clear hb) | ((try (refine gate_guard (by rfl) ?_; dsimp only)); go_at_call 13; (with_reducible refine (HF.out).mono ?_); rintro e w2 ⟨rfl, hb2⟩; have HB2 := Aside0.mk (below_step HB.out hb2); clear hb2))
    (try go_ret)
    exact ⟨rfl, HS.out.below HB2.out, Chg.of_below HB2.out⟩
set_option maxHeartbeats 8000000 in
set_option maxRecDepth 100000 in
theorem make_good {w : World} {base g most : Nat} {P : Nat → Prop} {shs : List S65} {T : List Thg} {mv : Int} (h : AS w base P g most shs T mv) (s n : Int) (h1 : ¬ sizeF shs s n < 0) (h2 : ¬ freeF most shs T < sizeF shs s n) :
    Calls Try.prog 12 #[.pointer (some ⟨g, 0, none⟩), .int .i64 s, .int .i64 n] w fun e w' => e = .returned (.int .i64 ((1 + sumT shs T : Nat) : Int)) ∧ AS w' base P g most shs (T ++ [newT shs s n]) mv ∧ Chg P w w' := by
  obtain ⟨k1, k2, k3, k4, k5⟩ := new_ok h.shl h1
  obtain ⟨k, rfl⟩ : ∃ k : Nat, s = k := ⟨s.toNat, by omega⟩
  have HZ := Aside0.mk (size_calls h (k : Int) n)
  have HS := Aside0.mk h
  have hle := size_le shs (k : Int) n h.shl
  obtain ⟨gw, gs, shV, w0, junk, hM⟩ := h.mem
  obtain ⟨z, hz⟩ : ∃ z : Nat, tsz shs (newT shs (k : Int) n) = z := ⟨_, rfl⟩
  have hsz : sizeF shs (k : Int) n = (z : Int) := by rw [← k2, hz]
  have hroom : sumT shs T + z ≤ most := by unfold freeF at h2; omega
  have hjl : junk.length = most - sumT shs T := by
    have := hM.lw
    rw [List.length_append, List.length_append, flat_len] at this
    simp at this
    have := h.room
    omega
  have HW := make_words (T := T) (w0 := w0) (junk := junk) hz (by rw [hjl]; omega) k3 (fun hh => (k5 hh).1)
  rw [Int.toNat_natCast] at HW k5
  have HG := make_begs (T := T) (most := most) hz hroom
  have hbnd := h.bnd
  have HFIN : Aside0 (∀ w2, AM w2 base P g gw gs (most + 1) ([w0] ++ (T ++ [newT shs (k : Int) n]).flatMap (encT shs) ++ junk.drop z) ([false] ++ (T ++ [newT shs (k : Int) n]).flatMap (begT shs) ++ List.replicate (most - sumT shs (T ++ [newT shs (k : Int) n])) false) ((1 + sumT shs T + z : Nat) : Int) mv shV shs → AS w2 base P g most shs (T ++ [newT shs (k : Int) n]) mv) := ⟨fun w2 h2 => by
    have hsum : sumT shs (T ++ [newT shs (k : Int) n]) = sumT shs T + z := by unfold sumT; rw [List.map_append, List.sum_append]; simp [hz]
    refine ⟨h.bnd, by rw [hsum]; exact hroom, fun t ht => ?_, h.shl, fun t ht => ?_, gw, gs, shV, w0, junk.drop z, ?_⟩
    · rcases List.mem_append.1 ht with e | e
      · exact h.things t e
      · simp at e; subst e; exact k1
    · rcases List.mem_append.1 ht with e | e
      · exact h.wrd t e
      · simp at e; subst e; intro y hy; have := List.eq_of_mem_replicate hy; subst this; exact ⟨by decide, by decide⟩
    · rw [show 1 + sumT shs (T ++ [newT shs (k : Int) n]) = 1 + sumT shs T + z by rw [hsum]; omega]
      exact h2⟩
  dsimp only at HW
  rw [← HW, ← HG] at HFIN
  have HF0 := Aside0.mk (fun w2 (hb : Below w.heap.size w w2) => free_calls (h.below hb))
  rw [hsz] at HZ h1 h2
  have hz1 : 1 ≤ z := by rw [← hz]; exact tsz_pos _ _
  have harr : (shOf shs k).f1 = true → 2 ≤ z := fun hh => by rw [← hz]; unfold tsz; show 2 ≤ (if (shOf shs (k : Int).toNat).f1 = true then 2 else 1) + _; rw [Int.toNat_natCast, if_pos hh]; omega
  generalize T ++ [newT shs (k : Int) n] = T2 at *
  have HM := Aside0.mk hM
  clear hM HW HG h k1 k2 hsz hz hle
  generalize [w0] ++ T.flatMap (encT shs) ++ junk = ws at *
  generalize [false] ++ T.flatMap (begT shs) ++ List.replicate (most - sumT shs T) false = sts at *
  generalize hF : freeF most shs T = F at *
  have ha : 1 + sumT shs T + z ≤ most + 1 := by omega
  generalize 1 + sumT shs T = a at *
  have hm : most + 1 ≤ 100000 := by omega
  generalize most + 1 = m at *
  obtain ⟨q0, q1, q2, q3, q4, q5⟩ : (0 : Int) ≤ (a : Int) ∧ (a : Int) ≤ (a : Int) + (z : Int) ∧ (a : Int) + (z : Int) ≤ (m : Int) ∧ (m : Int) ≤ 100000 ∧ (a : Int) < (m : Int) ∧ ¬ (z : Int) < 0 := ⟨by omega, by omega, by omega, by omega, by omega, by omega⟩
  clear hroom hjl
  go_enter Try.func12, Try.ntmps12
  go_wp2_with (first | (go_at_call 25; (with_reducible refine (HZ.out).mono ?_); rintro e w1 ⟨rfl, hb⟩; have HB := Aside0.mk hb; have HF := Aside0.mk (HF0.out _ hb); clear hb) | ((try (refine gate_guard (by rfl) ?_; dsimp only)); go_at_call 13; (with_reducible refine (HF.out).mono ?_); rintro e w2 ⟨rfl, hb2⟩; have HB2 := Aside0.mk (below_step HB.out hb2); have HM2 := Aside0.mk (HM.out.below HB2.out); have c0 := HM2.out.c0; have c2 := HM2.out.c2; clear hb2) | ((refine clear_blk (o' := a) (n := a + z - a) (c := m - a) rfl rfl (.tmp 33) 59 rfl Try.underlying59 info2z rfl rfl rfl HM2.out.wds (by rw [wC_size, HM2.out.lw]; omega) ?_; intro w3 hb3 hg3; rw [Nat.add_sub_cancel_left, wC_clear _ _ _ (by rw [HM2.out.lw]; omega)] at hb3; clear c0 c2; have HM3 := Aside0.mk (HM2.out.putw hb3 hg3 (by simp [HM2.out.lw]; omega)); have HC3 := Aside0.mk (Chg.trans (P := P) (Chg.of_below HB2.out) (Chg.of_grown (P := P) hg3 (.inl HM2.out.pw)) (fun k hk => .inl hk)); have c0 := HM3.out.c0; have c1 := HM3.out.c1; clear hb3 hg3)))
  have e1 := HM3.out.cw (i := a) (by omega)
  have e2 := HM3.out.cs (i := a) (by omega)
  have f1 := frozen_of_row _ _ a _ _ HM3.out.wds
  have f2 := frozen_of_row _ _ a _ _ HM3.out.stb
  obtain ⟨n1, n2, n3⟩ := HM3.out.gne
  go_region
  clear e1 e2 f1 f2 c0 c1
  obtain ⟨hb4, hg4, _⟩ := setCell_blk (q := a) (v := .int .i64 (k : Int)) HM3.out.wds (by rw [wC_size, HM3.out.lw]; omega)
  rw [wC_set] at hb4
  have HM4 := HM3.out.putw hb4 hg4 (by rw [List.length_set]; exact HM3.out.lw)
  obtain ⟨hb5, hg5, _⟩ := setCell_blk (q := a) (v := .bool true) HM4.stb (by rw [bC_size, HM4.ls]; omega)
  rw [bC_set] at hb5
  have HM5 := (HM4.puts hb5 hg5 (by rw [List.length_set]; exact HM4.ls)).below (below_drew (Below.refl _ _))
  have HC5 := Aside0.mk (((HC3.out.trans (Chg.of_grown (P := P) hg4 (.inl HM3.out.pw)) (fun k hk => .inl hk)).trans (Chg.of_grown (P := P) hg5 (.inl HM4.ps)) (fun k hk => .inl hk)).trans (Chg.of_below (P := P) (below_drew (Below.refl _ _))) (fun k hk => .inl hk))
  clear hb4 hg4 HM4 hb5 hg5 HC3 HM3
  generalize ((w3.setCell ⟨gw, a, none⟩ (.int .i64 (k : Int))).setCell ⟨gs, a, none⟩ (.bool true)).drew = w5 at *
  obtain ⟨ad, c, A0, cc0, rfl, y0, y1, y2, y3, y4⟩ := HM5.sh k (by omega)
  have c0 := HM5.c0
  have c2 := HM5.c2
  have c3 := HM5.c3
  have HM5' := Aside0.mk HM5
  clear y0 y2 y3 y4 HM5 HM HM2
  cases hb : (shOf shs k).f1 with
  | true =>
    rw [hb] at y1 HFIN
    have hz2 := harr hb
    have q6 : (a : Int) + 1 < (m : Int) := by omega
    go_wp2_with (first | ((with_reducible refine gate_store (t := 2) (p := 62) (v := .tmp 61) rfl ?_); refine cell_store rfl 2 (.tmp 62) (.tmp 61) rfl oi2 (q := a + 1) (v := .int .i64 n) rfl rfl rfl HM5'.out.wds (by rw [wC_size, HM5'.out.lw]; omega) ?_; intro w7 hb7 hg7 _; rw [wC_set] at hb7; have HM7 := Aside0.mk (HM5'.out.putw hb7 hg7 (by rw [List.length_set]; exact HM5'.out.lw)); have HC7 := Aside0.mk (HC5.out.trans (Chg.of_grown (P := P) hg7 (.inl HM5'.out.pw)) (fun k hk => .inl hk)); clear c0 c2 c3 y1 hb7 hg7; have c2 := HM7.out.c2) | ((with_reducible refine gate_store (t := 3) (p := 70) (v := .tmp 68) rfl ?_); refine cell_store rfl 3 (.tmp 70) (.tmp 68) rfl oi3 (q := 2) (v := .int .i64 ((a : Int) + (z : Int))) rfl rfl rfl HM7.out.box (show (2 : Nat) < 5 by decide) ?_; intro w8 hb8 hg8 _; have HM8 := Aside0.mk (HM7.out.putg (nx2 := (a : Int) + (z : Int)) hb8 hg8); have HC8 := Aside0.mk (HC7.out.trans (Chg.of_grown (P := P) hg8 (.inl HM7.out.pg)) (fun k hk => .inl hk)); clear hb8 hg8 c2))
    (try go_ret)
    exact ⟨rfl, HFIN.out _ HM8.out, HC8.out⟩
  | false =>
    rw [hb] at y1 HFIN
    go_wp2_with (first | ((with_reducible refine gate_store (t := 3) (p := 70) (v := .tmp 68) rfl ?_); refine cell_store rfl 3 (.tmp 70) (.tmp 68) rfl oi3 (q := 2) (v := .int .i64 ((a : Int) + (z : Int))) rfl rfl rfl HM5'.out.box (show (2 : Nat) < 5 by decide) ?_; intro w8 hb8 hg8 _; have HM8 := Aside0.mk (HM5'.out.putg (nx2 := (a : Int) + (z : Int)) hb8 hg8); have HC8 := Aside0.mk (HC5.out.trans (Chg.of_grown (P := P) hg8 (.inl HM5'.out.pg)) (fun k hk => .inl hk)); clear hb8 hg8 c2))
    (try go_ret)
    exact ⟨rfl, HFIN.out _ HM8.out, HC8.out⟩
theorem make_calls {w : World} {base g most : Nat} {P : Nat → Prop} {shs : List S65} {T : List Thg} {mv : Int} (h : AS w base P g most shs T mv) (s n : Int) :
    Calls Try.prog 12 #[.pointer (some ⟨g, 0, none⟩), .int .i64 s, .int .i64 n] w fun e w' => e = .returned (.int .i64 (makeF most shs T s n).2) ∧ AS w' base P g most shs (makeF most shs T s n).1 mv ∧ Chg P w w' := by
  unfold makeF
  by_cases hb : sizeF shs s n < 0 ∨ freeF most shs T < sizeF shs s n
  · rw [if_pos hb]; exact make_bad h s n hb
  · rw [if_neg hb]; exact make_good h s n (fun h => hb (.inl h)) (fun h => hb (.inr h))
end Go.Proofs.Ytibhjlmffgabgaa.PAll
