import Derived.Test.YtibhjlmffgabgaaZGState
import Derived.Test.YtibhjlmffgabgaaZWalkFills
import Derived.Deep.CutBlock
import Derived.Deep.DeepCutAuto
namespace Go.Proofs.Ytibhjlmffgabgaa.PAll
open Go.RowKit Go.Proofs.YtibhjlmffgabgaaW.PrintWords Go.Proofs.YtibhjlmffgabgaaW.PrintLast Go.Proofs.YtibhjlmffgabgaaW.PrintMore
open Go.Proofs.Ytibhjlmffgabgaa.MapInt
set_option linter.unusedVariables false
set_option linter.unusedSimpArgs false
theorem info35 : (Try.prog.info? 35).map (fun i => (i.zero, i.size, i.bytes)) = some (some (.agg #[.int .i64 0, .slice none 0 0, .int .i64 0, .int .i64 0, .int .i64 0, .int .i64 0, .slice none 0 0]), 7, 88) := by kernel_rfl
theorem info5 : (Try.prog.info? 5).map (fun i => (i.zero, i.size, i.bytes)) = some (some (.int .u8 0), 1, 1) := by kernel_rfl
def good (x : S35) : Bool := decide (x.f1.length ≤ 50) && !(decide (x.f0 = 2) && decide (500 < x.f3))
def isShape (x : S35) : Bool := decide (x.f0 = 0) || decide (x.f0 = 1)
structure Stop (l : List S35) (i : Nat) : Prop where
  le : i ≤ l.length
  m : i ≤ 100
  gd : ∀ j x, j < i → l[j]? = some x → good x = true
  st : i = 100 ∨ i = l.length ∨ ∃ x, l[i]? = some x ∧ good x = false
theorem Stop.unique {l : List S35} {i j : Nat} (h : Stop l i) (k : Stop l j) : i = j := by
  have key : ∀ {i j : Nat}, Stop l i → Stop l j → ¬ i < j := fun {i j} h k hlt => by
    rcases h.st with h1 | h1 | ⟨x, h1, h2⟩
    · have := k.m; omega
    · have := k.le; omega
    · rw [k.gd i x hlt h1] at h2; cases h2
  have h1 := key h k
  have h2 := key k h
  omega
structure GL (W w : World) (l : List S35) (i : Nat) (vs : Value) (ls : List LC) : Prop where
  bel : Below W.heap.size W w
  own : w.ownsRow W.heap.size 35 7 vs ls.length (ls.flatMap lcC)
  eq : ls.map (·.x) = (l.take i).filter isShape
  lr : ∀ c ∈ ls, LR W c
  gd : ∀ j x, j < i → l[j]? = some x → good x = true
  len : ls.length ≤ i
theorem GL.below {W w w2 : World} {l : List S35} {i : Nat} {vs : Value} {ls : List LC} (h : GL W w l i vs ls) (hb : Below w.heap.size w w2) : GL W w2 l i vs ls := ⟨below_step h.bel hb, own_below h.own hb, h.eq, h.lr, h.gd, h.len⟩
theorem take_filter {l : List S35} {i : Nat} {x : S35} (hx : l[i]? = some x) : (l.take (i + 1)).filter isShape = (l.take i).filter isShape ++ (if isShape x = true then [x] else []) := by
  have hlt := (List.getElem?_eq_some_iff.1 hx).1
  rw [List.take_succ_eq_append_getElem hlt, List.filter_append]
  have : l[i] = x := (List.getElem?_eq_some_iff.1 hx).2
  rw [this]
  congr 1
  cases h : isShape x <;> simp [List.filter, h]
theorem GL.skip {W w : World} {l : List S35} {i : Nat} {vs : Value} {ls : List LC} {x : S35} (h : GL W w l i vs ls) (hx : l[i]? = some x) (hg : good x = true) (hs : isShape x = false) : GL W w l (i + 1) vs ls :=
  ⟨h.bel, h.own, by rw [take_filter hx, hs, if_neg (by decide), List.append_nil]; exact h.eq, h.lr, fun j y hj hy => by
    rcases Nat.lt_or_ge j i with h1 | h1
    · exact h.gd j y h1 hy
    · obtain rfl : j = i := by omega
      rw [hx] at hy; injection hy with hy; subst hy; exact hg, by have := h.len; omega⟩
theorem GL.push {W w w2 : World} {l : List S35} {i : Nat} {vs vs2 : Value} {ls : List LC} {c : LC} {o : Obj} (h : GL W w l i vs ls) (hx : l[i]? = some c.x) (hg : good c.x = true) (hs : isShape c.x = true) (hr : LR W c) (ho : w2.ownsRow W.heap.size 35 7 vs2 (ls.length + 1) (ls.flatMap lcC ++ lcC c)) (hgr : (w.alloc o).grownBy w2 vs.ownBlock) : GL W w2 l (i + 1) vs2 (ls ++ [c]) :=
  ⟨((below_alloc h.bel o).grown hgr (by have := h.bel.size; rw [sz_alloc]; omega) (fun k hk => (own_row_lt h.own k hk).2)), by rw [List.length_append, List.flatMap_append]; simpa using ho, by rw [take_filter hx, hs, if_pos rfl, List.map_append, h.eq]; rfl, fun d hd => by
    rcases List.mem_append.1 hd with e | e
    · exact h.lr d e
    · simp at e; subst e; exact hr, fun j y hj hy => by
    rcases Nat.lt_or_ge j i with h1 | h1
    · exact h.gd j y h1 hy
    · obtain rfl : j = i := by omega
      rw [hx] at hy; injection hy with hy; subst hy; exact hg, by rw [List.length_append]; have := h.len; simp; omega⟩
theorem lc_at {W : World} {A : Option Addr} {L : Nat} {l : List S35} (hC : Kd.C k35 W A L l) (i : Nat) (hi : i < L) : ∃ ad c, A = some ad ∧ l[i]? = some c.x ∧ LR W c ∧ c.x.f1.length ≤ 9223372036854775807 ∧
    (∀ w, Below W.heap.size W w → w.cell? (ad.add (i * 7)) = some (.int .i64 c.x.f0) ∧ w.cell? ⟨(ad.add (i * 7)).block, (ad.add (i * 7)).off + 1, none⟩ = some (.slice c.A1 c.x.f1.length c.c1) ∧ w.cell? ⟨(ad.add (i * 7)).block, (ad.add (i * 7)).off + 2, none⟩ = some (.int .i64 c.x.f2) ∧ w.cell? ⟨(ad.add (i * 7)).block, (ad.add (i * 7)).off + 3, none⟩ = some (.int .i64 c.x.f3) ∧ w.cell? ⟨(ad.add (i * 7)).block, (ad.add (i * 7)).off + 4, none⟩ = some (.int .i64 c.x.f4) ∧ w.cell? ⟨(ad.add (i * 7)).block, (ad.add (i * 7)).off + 5, none⟩ = some (.int .i64 c.x.f5) ∧ w.cell? ⟨(ad.add (i * 7)).block, (ad.add (i * 7)).off + 6, none⟩ = some (.slice c.A6 c.x.f6.length c.c6)) := by
  obtain ⟨ad, A1, c1, A6, c6, e, y0, y1, y2, y3, y4, y5, y6, l1, l6, g1, g6⟩ := at_T35 hC (i : Int) (by omega) (by omega)
  rw [Int.toNat_natCast] at y0 y1 y2 y3 y4 y5 y6
  have hl : i < l.length := by rw [hC.1]; exact hi
  have hx : l[i]? = some (rd_T35 l (i : Int)) := by
    unfold rd_T35
    rw [Int.toNat_natCast, List.getD_eq_getElem?_getD, List.getElem?_eq_getElem hl]; rfl
  generalize rd_T35 l (i : Int) = x at *
  exact ⟨ad, ⟨x, A1, c1, A6, c6⟩, e, hx, ⟨g1, l1⟩, Kd.C_max g1, fun w hb => ⟨bcell hb y0, bcell hb y1, bcell hb y2, bcell hb y3, bcell hb y4, bcell hb y5, bcell hb y6⟩⟩
def shOfC (x : S35) : S65 := if x.f0 = 0 then ⟨x.f1.map (· == 3), false, false⟩ else ⟨[], true, x.f2 == 3⟩
theorem gk_start {W wc : World} {g : Nat} {vs : Value} {ls : List LC} (hb : Below W.heap.size W wc) (h3 : Blk wc W.heap.size 23 #[.pointer (some ⟨g, 0, none⟩)]) (hs : wc.ownsRow W.heap.size 35 7 vs ls.length (ls.flatMap lcC)) :
    GG W (((wc.alloc (.map #[] 0)).alloc (.cells #[.map (some wc.heap.size)] 68)).alloc (.cells #[.slice none 0 0] 30)) g W.heap.size (wc.heap.size + 1) (wc.heap.size + 1 + 1) wc.heap.size (.slice none 0 0) [] (.slice none 0 0) [] vs ls := by
  have e1 := sz_alloc wc (.map #[] 0)
  have e2 := sz_alloc (wc.alloc (.map #[] 0)) (.cells #[.map (some wc.heap.size)] 68)
  rw [e1] at e2
  have hsz := hb.size
  refine ⟨⟨below_alloc (below_alloc (below_alloc hb _) _) _, ((h3.alloc _).alloc _).alloc _, ?_, ?_, ?_, ⟨rfl, .inl ⟨rfl, rfl⟩⟩, by omega, hsz⟩, ⟨rfl, .inl ⟨rfl, rfl⟩⟩, own_alloc' (own_alloc' (own_alloc' hs _) _) _⟩
  · have := (Blk.made (wc.alloc (.map #[] 0)) 68 #[.map (some wc.heap.size)]).alloc (.cells #[.slice none 0 0] 30)
    rw [e1] at this; exact this
  · have := Blk.made ((wc.alloc (.map #[] 0)).alloc (.cells #[.map (some wc.heap.size)] 68)) 30 #[.slice none 0 0]
    rw [e2] at this; exact this
  · have := (IM.made Try.prog wc)
    exact ((this.below ((Below.refl _ _).alloc (Nat.le_refl _) _)).below ((Below.refl _ _).alloc (Nat.le_refl _) _)).ext (fun k _ => by unfold posF; rw [if_neg (by simp)])
theorem gg_out0 {W w : World} {g b3 b10 b11 bm : Nat} {v : Value} {O : List Int} {vo : Value} {out : List Int} {vs : Value} {ls : List LC} (h : GG W w g b3 b10 b11 bm v O vo out vs ls) : GG W (w.alloc (.cells #[] 5)) g b3 b10 b11 bm v O (.slice (some ⟨w.heap.size, 0, none⟩) 0 0) [] vs ls := by
  have h2 := h.below (below_alloc (Below.refl _ _) (.cells #[] 5))
  exact ⟨h2.gk, own_lit w W.heap.size 5 .u8 [] h.gk.bel.size (by simp), h2.sh⟩
def out1L (st : List Int × List Int) (t : Thg) : Nat := (st.2 ++ [(t.s : Int) % 256, (t.xs.length : Int) % 256]).length
theorem words_len (shs : List S65) (T : List Thg) (t : Thg) : ∀ (k : Nat) (st : List Int × List Int), (gWords shs T t k st).2.length ≤ st.2.length + 8 * k
  | 0, st => Nat.le_refl _
  | k + 1, st => by
    have ih := words_len shs T t k st
    unfold gWords gWord
    split
    · split <;> (rw [List.length_append]; show _ + 3 ≤ _; omega)
    · rw [List.length_append]; show _ + 8 ≤ _; omega
theorem out_len {shs : List S65} {T : List Thg} (hT : ∀ t ∈ T, okT shs t) (root : Int) : ∀ i, (gSt shs T root i).2.length ≤ 1100000 * i
  | 0 => Nat.le_refl _
  | i + 1 => by
    have ih := out_len hT root i
    unfold gSt gThing
    split
    · omega
    · rename_i t ht
      have h1 := words_len shs T t t.xs.length ((gSt shs T root i).1, (gSt shs T root i).2 ++ [(t.s : Int) % 256, (t.xs.length : Int) % 256])
      have h2 := (hT t (find_ge T _ _ t ht).2.2).2.2
      rw [List.length_append] at h1
      have h3 : [(t.s : Int) % 256, (t.xs.length : Int) % 256].length = 2 := rfl
      omega
theorem words_pre (shs : List S65) (T : List Thg) (t : Thg) : ∀ (k : Nat) (st : List Int × List Int), ∃ E, (gWords shs T t k st).1 = st.1 ++ E
  | 0, st => ⟨[], by simp [gWords]⟩
  | k + 1, st => by
    obtain ⟨E, h⟩ := words_pre shs T t k st
    unfold gWords gWord
    split
    · split
      · dsimp only
        unfold vQ
        split
        · exact ⟨_, by rw [h, List.append_assoc]⟩
        · exact ⟨E, h⟩
      · exact ⟨E, h⟩
    · exact ⟨E, h⟩
theorem words_at (shs : List S65) (T : List Thg) (t : Thg) (k : Nat) (st : List Int × List Int) {i : Nat} (hi : i < st.1.length) {a : Int} (ha : st.1.getD i 0 = a) : i < (gWords shs T t k st).1.length ∧ (gWords shs T t k st).1.getD i 0 = a := by
  obtain ⟨E, h⟩ := words_pre shs T t k st
  rw [h]
  exact ⟨by rw [List.length_append]; omega, by rw [← ha, List.getD_eq_getElem?_getD, List.getElem?_append_left hi, ← List.getD_eq_getElem?_getD]⟩
theorem ref_at {shs : List S65} {ls : List LC} {t : Thg} {c : LC} (hs : shs = ls.map (fun c => shOfC c.x)) (hc : ls[t.s]? = some c) : shOf shs t.s = shOfC c.x := by
  unfold shOf
  rw [hs, List.getD_eq_getElem?_getD, List.getElem?_map, hc]; rfl
theorem wb_take (X : Int) {b : Nat} (h : b < 8) : (wBytes X).take (b + 1) = (wBytes X).take b ++ [X / 2 ^ (8 * b) % 256] := by
  unfold wBytes
  rw [← List.map_take, ← List.map_take, List.take_range, List.take_range, Nat.min_eq_left (by omega), Nat.min_eq_left (by omega), List.range_succ, List.map_append]
  rfl
theorem wb_all (X : Int) : (wBytes X).take 8 = wBytes X := List.take_of_length_le (by unfold wBytes; simp)
section
variable {W w : World} {P : Nat → Prop} {g most b3 b10 b11 bm : Nat} {shs : List S65} {T : List Thg} {mv : Int} {v : Value} {O : List Int} {vo : Value} {out : List Int} {vs : Value} {ls : List LC}
theorem gg_s {ad : Addr} {c i : Nat} {a : Int} (h : GG W w g b3 b10 b11 bm (.slice (some ad) O.length c) O vo out vs ls) (hi : i < O.length) (ha : O.getD i 0 = a) : w.cell? ⟨b3, 0, none⟩ = some (.pointer (some ⟨g, 0, none⟩)) ∧ w.cell? ⟨b11, 0, none⟩ = some (.slice (some ad) O.length c) ∧ w.cell? (ad.add i) = some (.int .i64 a) := by
  obtain ⟨ad2, c2, h1, h2⟩ := h.at hi
  injection h1 with h1 h3 h4
  injection h1 with h1
  subst h1
  rw [ha] at h2
  exact ⟨h.gk.k3.cell rfl, h.gk.k11.cell rfl, h2⟩
theorem gg_shape (hA : AZ W P g most shs T mv) (h : GG W w g b3 b10 b11 bm v O vo out vs ls) {a : Int} {t : Thg} (ht : findT shs T 1 a = some t) : Calls Try.prog 21 #[.pointer (some ⟨g, 0, none⟩), .int .i64 a] w fun e w' => e = .returned (.int .i64 (t.s : Int)) ∧ GG W w' g b3 b10 b11 bm v O vo out vs ls := by
  have := shape_az (hA.below h.gk.bel) a
  rw [ht] at this
  exact this.mono (fun e w' ⟨e1, hb⟩ => ⟨e1, h.below hb⟩)
theorem gg_len (hA : AZ W P g most shs T mv) (h : GG W w g b3 b10 b11 bm v O vo out vs ls) {a : Int} {t : Thg} (ht : findT shs T 1 a = some t) : Calls Try.prog 35 #[.pointer (some ⟨g, 0, none⟩), .int .i64 a] w fun e w' => e = .returned (.int .i64 (t.xs.length : Int)) ∧ GG W w' g b3 b10 b11 bm v O vo out vs ls := by
  have := len_az (hA.below h.gk.bel) a
  rw [ht] at this
  exact this.mono (fun e w' ⟨e1, hb⟩ => ⟨e1, h.below hb⟩)
theorem gg_get (hA : AZ W P g most shs T mv) (h : GG W w g b3 b10 b11 bm v O vo out vs ls) {a : Int} {t : Thg} (ht : findT shs T 1 a = some t) (k : Nat) : Calls Try.prog 20 #[.pointer (some ⟨g, 0, none⟩), .int .i64 a, .int .i64 (k : Int)] w fun e w' => e = .returned (.int .i64 (t.xs.getD k 0)) ∧ GG W w' g b3 b10 b11 bm v O vo out vs ls := by
  have := get_az (hA.below h.gk.bel) a (k : Int)
  unfold getF at this
  rw [ht] at this
  dsimp only at this
  rw [if_neg (by omega), Int.toNat_natCast] at this
  exact this.mono (fun e w' ⟨e1, hb⟩ => ⟨e1, h.below hb⟩)
end
set_option maxHeartbeats 16000000 in
set_option maxRecDepth 100000 in
theorem graph_calls {W : World} {P : Nat → Prop} {g most : Nat} {shs : List S65} {T : List Thg} {mv : Int} (hA : AZ W P g most shs T mv) (A0 : Option Addr) (c0 : Nat) (l : List S35) (L : Nat) (hC : Kd.C k35 W A0 L l) (hL : L ≤ 9223372036854775807) (root : Int) (hr : inR root) {i0 : Nat} (hst : Stop l i0) (hsh : shs = ((l.take i0).filter isShape).map shOfC) :
    Calls Try.prog 18 #[.pointer (some ⟨g, 0, none⟩), .slice A0 L c0, .int .i64 root] W fun e w' => ∃ N, (gSt shs T root N).1.length = N ∧ e = .returned (.string (strOfNums (gSt shs T root N).2)) ∧ Below W.heap.size W w' := by
  have HCL := Aside0.mk (fun i hi => lc_at hC i hi)
  have hLl : l.length = L := hC.1
  have HLL := Aside0.mk hLl
  have HSI := Aside0.mk hst
  have HA := Aside0.mk hA
  have HGL0 : Aside0 (GL W (W.alloc (.cells #[.pointer (some ⟨g, 0, none⟩)] 23)) l 0 (.slice none 0 0) []) := ⟨⟨below_alloc (Below.refl _ _) _, ⟨rfl, .inl ⟨rfl, rfl⟩⟩, by simp, fun c h => (by cases h), fun j x h => (by omega), Nat.le_refl _⟩⟩
  have HB3 : Aside0 (Blk (W.alloc (.cells #[.pointer (some ⟨g, 0, none⟩)] 23)) W.heap.size 23 #[.pointer (some ⟨g, 0, none⟩)]) := ⟨Blk.made _ _ _⟩
  clear hC hLl hst hA
  go_enter Try.func18, Try.ntmps18
  go_upto_block 0 with (fail)
  go_cut [7] from 8 to 58 (fun v7 wx => ∃ (i : Nat) (ls : List LC), Aside0 (Stop l i ∧ GL W wx l i v7 ls ∧ Blk wx W.heap.size 23 #[.pointer (some ⟨g, 0, none⟩)]))
  case first =>
    go_wp2_with fail
    go_loopw [7, 23] (fun v7 v23 wr => ∃ (i : Nat) (ls : List LC), i ≤ L ∧ i ≤ 100 ∧ v23 = .int .i64 i ∧ Aside0 (GL W wr l i v7 ls ∧ Blk wr W.heap.size 23 #[.pointer (some ⟨g, 0, none⟩)])) (fun _ v23 _ => L - (intOf v23).toNat)
    case atStart => exact ⟨0, [], Nat.zero_le _, Nat.zero_le _, rfl, ⟨HGL0.out, HB3.out⟩⟩
    case round =>
      clear HGL0 HB3
      obtain ⟨i, ls, hi, hi2, rfl, HG⟩ := hrel
      by_cases hlt : i < L
      · have hltI : (i : Int) < (L : Int) := by omega
        obtain ⟨ad, c, rfl, hx, hlr, hmx, hcell⟩ := HCL.out i hlt
        obtain ⟨y0, y1, y2, y3, y4, y5, y6⟩ := hcell wr HG.out.1.bel
        have HLR := Aside0.mk hlr
        have HX := Aside0.mk hx
        clear hcell hlr hx
        by_cases h1 : i = 100
        · have b1 : ((i : Int) == 100) = true := by simp; omega
          have HST : Aside0 (Stop l i) := ⟨⟨by have := HLL.out; omega, hi2, HG.out.1.gd, .inl h1⟩⟩
          clear h1
          go_wp2_with fail
          go_meet
          case rel => exact ⟨i, ls, ⟨HST.out, HG.out.1.below (below_alloc (Below.refl _ _) _), HG.out.2.below (below_alloc (Below.refl _ _) _)⟩⟩
        have b1 : ((i : Int) == 100) = false := by simp; omega
        have hi3 : i + 1 ≤ 100 := by omega
        clear h1
        by_cases h2 : 50 < c.x.f1.length
        · have b2 : (50 : Int) < (c.x.f1.length : Int) := by omega
          have HST : Aside0 (Stop l i) := ⟨⟨by have := HLL.out; omega, hi2, HG.out.1.gd, .inr (.inr ⟨c.x, HX.out, by unfold good; rw [decide_eq_false (by omega)]; rfl⟩)⟩⟩
          clear h2
          go_wp2_with fail
          go_meet
          case rel => exact ⟨i, ls, ⟨HST.out, HG.out.1.below (below_alloc (Below.refl _ _) _), HG.out.2.below (below_alloc (Below.refl _ _) _)⟩⟩
        have b2 : decide ((50 : Int) < (c.x.f1.length : Int)) = false := by simp; omega
        by_cases h3 : c.x.f0 = 2 ∧ 500 < c.x.f3
        · have b3 : (c.x.f0 == 2) = true := by simpa using h3.1
          have b4 : (500 : Int) < c.x.f3 := h3.2
          have HST : Aside0 (Stop l i) := ⟨⟨by have := HLL.out; omega, hi2, HG.out.1.gd, .inr (.inr ⟨c.x, HX.out, by unfold good; rw [decide_eq_true h3.1, decide_eq_true h3.2]; simp⟩)⟩⟩
          clear h2 h3
          go_wp2_with fail
          go_meet
          case rel => exact ⟨i, ls, ⟨HST.out, HG.out.1.below (below_alloc (Below.refl _ _) _), HG.out.2.below (below_alloc (Below.refl _ _) _)⟩⟩
        have HGD : Aside0 (good c.x = true) := ⟨by
          unfold good
          rw [decide_eq_true (by omega : c.x.f1.length ≤ 50)]
          by_cases h4 : c.x.f0 = 2
          · rw [decide_eq_true h4, decide_eq_false (fun h5 => h3 ⟨h4, h5⟩)]; rfl
          · rw [decide_eq_false h4]; rfl⟩
        clear h2 h3
        by_cases h0 : c.x.f0 = 0
        · have HSH : Aside0 (isShape c.x = true) := ⟨by unfold isShape; rw [decide_eq_true h0]; rfl⟩
          have e0 : (c.x.f0 == 0) = true := by simp; omega
          have e2 : (c.x.f0 == 2) = false := by simp; omega
          clear h0
          go_wp2_with (first | ((with_reducible refine gate_dst (N := 57) rfl ?_); at_builtin; refine app_new_at rfl (.tmp 54) (.tmp 56) 33 35 (.agg #[.int .i64 0, .slice none 0 0, .int .i64 0, .int .i64 0, .int .i64 0, .int .i64 0, .slice none 0 0]) 7 88 rfl Try.underlying33 info35 rfl (by decide) rfl (own_alloc' HG.out.1.own _) _ 1 rfl (by simp) rfl (fun u hu => by simp at hu; rcases hu with rfl | rfl | rfl | rfl | rfl | rfl | rfl <;> rfl) (by have := HG.out.1.len; omega) (by have := HG.out.1.len; omega) (by have := HG.out.1.bel.size; rw [sz_alloc]; omega) ?_; intro v2 w4 ho hg; have HOW := Aside0.mk ho; have HGR := Aside0.mk hg; clear ho hg y0 y1 y2 y3 y4 y5 y6))
          go_roundw
          case rel => exact ⟨i + 1, ls ++ [c], by omega, by omega, by go_num, ⟨(HG.out.1.below (below_alloc (Below.refl _ _) _)).push HX.out HGD.out HSH.out HLR.out HOW.out HGR.out, ((HG.out.2.alloc _).alloc _).kept HGR.out (own_ne_cells HG.out.1.own HG.out.2 (by decide))⟩⟩
          case measure => (simp [intOf]; omega)
        by_cases h1 : c.x.f0 = 1
        · have HSH : Aside0 (isShape c.x = true) := ⟨by unfold isShape; rw [decide_eq_true h1]; simp⟩
          have e0 : (c.x.f0 == 0) = false := by simp; omega
          have e1 : (c.x.f0 == 1) = true := by simp; omega
          have e2 : (c.x.f0 == 2) = false := by simp; omega
          clear h0 h1
          go_wp2_with (first | ((with_reducible refine gate_dst (N := 57) rfl ?_); at_builtin; refine app_new_at rfl (.tmp 54) (.tmp 56) 33 35 (.agg #[.int .i64 0, .slice none 0 0, .int .i64 0, .int .i64 0, .int .i64 0, .int .i64 0, .slice none 0 0]) 7 88 rfl Try.underlying33 info35 rfl (by decide) rfl (own_alloc' HG.out.1.own _) _ 1 rfl (by simp) rfl (fun u hu => by simp at hu; rcases hu with rfl | rfl | rfl | rfl | rfl | rfl | rfl <;> rfl) (by have := HG.out.1.len; omega) (by have := HG.out.1.len; omega) (by have := HG.out.1.bel.size; rw [sz_alloc]; omega) ?_; intro v2 w4 ho hg; have HOW := Aside0.mk ho; have HGR := Aside0.mk hg; clear ho hg y0 y1 y2 y3 y4 y5 y6))
          go_roundw
          case rel => exact ⟨i + 1, ls ++ [c], by omega, by omega, by go_num, ⟨(HG.out.1.below (below_alloc (Below.refl _ _) _)).push HX.out HGD.out HSH.out HLR.out HOW.out HGR.out, ((HG.out.2.alloc _).alloc _).kept HGR.out (own_ne_cells HG.out.1.own HG.out.2 (by decide))⟩⟩
          case measure => (simp [intOf]; omega)
        have HSH : Aside0 (isShape c.x = false) := ⟨by unfold isShape; rw [decide_eq_false h0, decide_eq_false h1]; rfl⟩
        by_cases h2 : c.x.f0 = 2
        · have e3 : decide ((500 : Int) < c.x.f3) = false := by
            have := HGD.out
            unfold good at this
            rw [decide_eq_true h2] at this
            cases e : decide ((500 : Int) < c.x.f3) with
            | false => rfl
            | true => rw [e] at this; simp at this
          have e0 : (c.x.f0 == 0) = false := by simp; omega
          have e1 : (c.x.f0 == 1) = false := by simp; omega
          have e2 : (c.x.f0 == 2) = true := by simp; omega
          clear h0 h1 h2
          go_wp2_with fail
          go_roundw
          case rel => exact ⟨i + 1, ls, by omega, by omega, by go_num, ⟨(HG.out.1.below (below_alloc (Below.refl _ _) _)).skip HX.out HGD.out HSH.out, HG.out.2.alloc _⟩⟩
          case measure => (simp [intOf]; omega)
        · have e0 : (c.x.f0 == 0) = false := by simp; omega
          have e1 : (c.x.f0 == 1) = false := by simp; omega
          have e2 : (c.x.f0 == 2) = false := by simp; omega
          clear h0 h1 h2
          go_wp2_with fail
          go_roundw
          case rel => exact ⟨i + 1, ls, by omega, by omega, by go_num, ⟨(HG.out.1.below (below_alloc (Below.refl _ _) _)).skip HX.out HGD.out HSH.out, HG.out.2.alloc _⟩⟩
          case measure => (simp [intOf]; omega)
      · have hltI : ¬ (i : Int) < (L : Int) := by omega
        have HST : Aside0 (Stop l i) := ⟨⟨by have := HLL.out; omega, hi2, HG.out.1.gd, .inr (.inl (by have := HLL.out; omega))⟩⟩
        go_wp2_with fail
        go_meet
        case rel => exact ⟨i, ls, ⟨HST.out, HG.out.1, HG.out.2⟩⟩
  case rest =>
    obtain ⟨i, ls, HC⟩ := hcut
    have HSH : Aside0 (shs = ls.map (fun c => shOfC c.x)) := ⟨by
      rw [hsh, ← HC.out.1.unique HSI.out, ← HC.out.2.1.eq, List.map_map]; rfl⟩
    have hmf : ∀ (fn : Fn) (first cap : Array Value) (w : World), (Instr.makeFunc fn first cap).run Try.prog w = .ok (.func fn first cap) w := fun _ _ _ _ => rfl
    have hmk : ∀ w : World, (Instr.makeMap 68 none).run Try.prog w = .ok (.map (some w.heap.size)) (w.alloc (.map #[] 0)) := fun w => by simp [Instr.makeMap, run_underlying Try.underlying68, Result.andThen]
    have HG0 := Aside0.mk (gk_start HC.out.2.1.bel HC.out.2.2 HC.out.2.1.own)
    have HV := Aside0.mk (gvisit_calls HA.out HG0.out.gk (Nat.zero_le _) root hr)
    clear HCL HLL HSI HGL0 HB3 hsh hr
    go_wp2_with (first | (go_at_call 40; (with_reducible refine (HV.out).mono ?_); rintro e wv ⟨rfl, v', hm, hk3⟩; have HG1 := Aside0.mk (gg_out0 (HG0.out.visited hm hk3)); clear hm hk3 HV HG0))
    have HISS : Aside0 (∀ c ∈ ls, isShape c.x = true) := ⟨fun c hc => by
      have h1 : c.x ∈ ls.map (·.x) := List.mem_map.2 ⟨c, hc, rfl⟩
      rw [HC.out.2.1.eq] at h1
      exact (List.mem_filter.1 h1).2⟩
    have HLRS : Aside0 (∀ c ∈ ls, LR W c) := ⟨HC.out.2.1.lr⟩
    have HLSM : Aside0 ((ls.length : Int) ≤ 9223372036854775807) := ⟨by have h1 := HC.out.2.1.len; have h2 := HC.out.1.m; omega⟩
    have HWR : Aside0 (∀ t ∈ T, ∀ x ∈ t.xs, inR x) := ⟨by
      obtain ⟨base, _, h⟩ := HA.out.ex
      exact h.wrd⟩
    have HT : Aside0 (T.length ≤ 65536 ∧ ∀ t ∈ T, okT shs t) := ⟨by
      obtain ⟨base, _, h⟩ := HA.out.ex
      exact ⟨by have := len_sum shs T; have := h.room; have := h.bnd; omega, h.things⟩⟩
    generalize hb11 : wc.heap.size + 1 + 1 = b11 at *
    generalize hb10 : wc.heap.size + 1 = b10 at *
    generalize wc.heap.size = bm at *
    clear hb11 hb10 hmf hmk
    have HOK := Aside0.mk (fun i => OK.st shs T root i)
    have HOL := Aside0.mk (fun i => out_len HT.out.2 root i)
    go_loopw [13, 14] (fun v13 v14 wr => ∃ (i : Nat) (v : Value), v14 = .int .i64 i ∧ i ≤ (gSt shs T root i).1.length ∧ Aside0 (GG W wr g W.heap.size b10 b11 bm v (gSt shs T root i).1 v13 (gSt shs T root i).2 u7 ls)) (fun _ v14 _ => T.length - (intOf v14).toNat)
    case atStart => exact ⟨0, v', rfl, Nat.zero_le _, HG1⟩
    case round =>
      clear HG1
      obtain ⟨i, v, rfl, hi, HG⟩ := hrel
      have hOK := HOK.out i
      have hlen := hOK.len
      have HOUT := Aside0.mk (HOL.out i)
      obtain ⟨st, hst⟩ : ∃ st, st = gSt shs T root i := ⟨_, rfl⟩
      rw [← hst] at HG hi hOK hlen HOUT
      have HST := Aside0.mk hst
      have hT := HT.out.1
      clear hst
      by_cases hlt : i < st.1.length
      · obtain ⟨ad, c, hv, hcx⟩ := HG.out.at hlt
        subst hv
        have hth := hOK.th (st.1.getD i 0) (by rw [List.getD_eq_getElem?_getD, List.getElem?_eq_getElem hlt]; exact List.getElem_mem _)
        obtain ⟨a, ha⟩ : ∃ a, st.1.getD i 0 = a := ⟨_, rfl⟩
        rw [ha] at hth hcx
        unfold isT at hth
        obtain ⟨t, ht⟩ := Option.isSome_iff_exists.1 hth
        have HAI := Aside0.mk ha
        have HTT := Aside0.mk ht
        have HTO := Aside0.mk (HT.out.2 t (find_ge T _ _ t ht).2.2)
        have x11 := HG.out.gk.k11.cell (o := 0) (v := .slice (some ad) st.1.length c) rfl
        have x3 := HG.out.gk.k3.cell (o := 0) (v := .pointer (some ⟨g, 0, none⟩)) rfl
        have hltI : (i : Int) < (st.1.length : Int) := by omega
        have hltm : (st.1.length : Int) ≤ 65536 := by omega
        clear ha hth ht hOK
        have H21 : Aside0 (∀ w vo out, GG W w g W.heap.size b10 b11 bm (.slice (some ad) st.1.length c) st.1 vo out u7 ls → Calls Try.prog 21 #[.pointer (some ⟨g, 0, none⟩), .int .i64 a] w fun e w' => e = .returned (.int .i64 (t.s : Int)) ∧ GG W w' g W.heap.size b10 b11 bm (.slice (some ad) st.1.length c) st.1 vo out u7 ls) := ⟨fun w vo out h => gg_shape HA.out h HTT.out⟩
        have H35 : Aside0 (∀ w vo out, GG W w g W.heap.size b10 b11 bm (.slice (some ad) st.1.length c) st.1 vo out u7 ls → Calls Try.prog 35 #[.pointer (some ⟨g, 0, none⟩), .int .i64 a] w fun e w' => e = .returned (.int .i64 (t.xs.length : Int)) ∧ GG W w' g W.heap.size b10 b11 bm (.slice (some ad) st.1.length c) st.1 vo out u7 ls) := ⟨fun w vo out h => gg_len HA.out h HTT.out⟩
        have HKS : Aside0 (∀ w vo out, GG W w g W.heap.size b10 b11 bm (.slice (some ad) st.1.length c) st.1 vo out u7 ls → w.cell? ⟨W.heap.size, 0, none⟩ = some (.pointer (some ⟨g, 0, none⟩)) ∧ w.cell? ⟨b11, 0, none⟩ = some (.slice (some ad) st.1.length c) ∧ w.cell? (ad.add i) = some (.int .i64 a)) := ⟨fun w vo out h => gg_s h hlt HAI.out⟩
        have hGL := HG.out.sh
        go_wp2_with fail
        go_region_held3 (fun w' : World => w'.cell? ⟨W.heap.size, 0, none⟩ = some (.pointer (some ⟨g, 0, none⟩)) ∧ w'.cell? ⟨b11, 0, none⟩ = some (.slice (some ad) st.1.length c) ∧ w'.cell? (ad.add i) = some (.int .i64 a)) (first | go_keep | (exact HKS.out _ _ _ HG5.out)) (first | (go_at_call 21; refine (H21.out _ _ _ (HG.out.below (by repeat' first | exact Below.refl _ _ | apply below_drew))).mono ?_; rintro e w5 ⟨rfl, hg5⟩; have HG5 := Aside0.mk hg5; clear hg5))
        go_wp2_with fail
        obtain ⟨z3, z11, zcx⟩ := HKS.out _ _ _ HG5.out
        clear x3 x11 hcx hGL HG
        have hob : st.2.length ≤ 1100000 * 65536 := by have := HOUT.out; have : 1100000 * i ≤ 1100000 * 65536 := Nat.mul_le_mul_left _ (by omega); omega
        have HOB := Aside0.mk hob
        clear hob
        go_region_held3 (fun w' : World => w'.cell? ⟨W.heap.size, 0, none⟩ = some (.pointer (some ⟨g, 0, none⟩)) ∧ w'.cell? ⟨b11, 0, none⟩ = some (.slice (some ad) st.1.length c) ∧ w'.cell? (ad.add i) = some (.int .i64 a)) (first | go_keep | (exact HKS.out _ _ _ HG7.out) | (exact HKS.out _ _ _ HG6.out)) (first
          | (go_at_call 35; refine (H35.out _ _ _ (HG5.out.below (by repeat' first | exact Below.refl _ _ | apply below_drew))).mono ?_; rintro e w6 ⟨rfl, hg6⟩; have HG6 := Aside0.mk hg6; clear hg6)
          | ((with_reducible refine gate_step (N := 88) rfl ?_); refine app_step rfl (.tmp 77) (.tmp 87) 73 5 (.int .u8 0) 1 1 rfl Try.underlying73 info5 rfl (by decide) rfl (own_below HG6.out.ou (by repeat' first | exact Below.refl _ _ | apply below_drew)) _ 2 rfl rfl (fun u hu => by simp at hu; rcases hu with rfl | rfl <;> rfl) (by have := HOB.out; omega) (by have := HOB.out; omega) (by have := HG6.out.gk.bel.size; exact this) ?_; intro v2 w7 ho hg; have HG7 := Aside0.mk (GG.put (xs := [(t.s : Int) % 256, (t.xs.length : Int) % 256]) (HG6.out.below (by repeat' first | exact Below.refl _ _ | apply below_drew)) rfl ho hg); clear ho hg))
        go_wp2_with fail
        clear z3 z11 zcx
        rw [show IntKind.u8.wrap (t.s : Int) = (t.s : Int) % 256 from rfl, show IntKind.u8.wrap (t.xs.length : Int) = (t.xs.length : Int) % 256 from rfl]
        obtain ⟨z3, z11, zcx⟩ := HKS.out _ _ _ HG7.out
        clear HG6 HG5
        go_region_held3 (fun w' : World => w'.cell? ⟨W.heap.size, 0, none⟩ = some (.pointer (some ⟨g, 0, none⟩)) ∧ w'.cell? ⟨b11, 0, none⟩ = some (.slice (some ad) st.1.length c) ∧ w'.cell? (ad.add i) = some (.int .i64 a)) (first | go_keep | (exact HKS.out _ _ _ HG8.out)) (first | (go_at_call 35; refine (H35.out _ _ _ (HG7.out.below (by repeat' first | exact Below.refl _ _ | apply below_drew))).mono ?_; rintro e w8 ⟨rfl, hg8⟩; have HG8 := Aside0.mk hg8; clear hg8))
        go_wp2_with fail
        have HWA := Aside0.mk (fun k => words_at shs T t k (st.1, st.2 ++ [(t.s : Int) % 256, (t.xs.length : Int) % 256]) hlt HAI.out)
        have HNEXT : Aside0 (gSt shs T root (i + 1) = gWords shs T t t.xs.length (st.1, st.2 ++ [(t.s : Int) % 256, (t.xs.length : Int) % 256])) := ⟨by
          show gThing shs T ((gSt shs T root i).1.getD i 0) (gSt shs T root i) = _
          rw [← HST.out, HAI.out]
          unfold gThing
          rw [HTT.out]⟩
        clear z3 z11 zcx H21 H35 HKS HG7
        have HO1 : Aside0 (out1L st t ≤ 1100000 * 65536 + 2) := ⟨by unfold out1L; rw [List.length_append]; have := HOB.out; show _ + 2 ≤ _; omega⟩
        unfold out1L at HO1
        generalize st.2 ++ [(t.s : Int) % 256, (t.xs.length : Int) % 256] = out1 at *
        go_loopw [13, 95] (fun v13 v95 wr => ∃ (k : Nat) (v : Value), k ≤ t.xs.length ∧ v95 = .int .i64 k ∧ Aside0 (GG W wr g W.heap.size b10 b11 bm v (gWords shs T t k (st.1, out1)).1 v13 (gWords shs T t k (st.1, out1)).2 u7 ls)) (fun _ v95 _ => t.xs.length - (intOf v95).toNat)
        case atStart => exact ⟨0, _, Nat.zero_le _, rfl, HG8⟩
        case round =>
          clear HG8
          obtain ⟨k, v, hk, rfl, HG⟩ := hrel
          obtain ⟨hit, hia⟩ := HWA.out k
          obtain ⟨wd, hwd⟩ : ∃ wd, gWords shs T t k (st.1, out1) = wd := ⟨_, rfl⟩
          have HWD := Aside0.mk hwd
          have OKK : Aside0 (OK shs T wd.1) := ⟨by rw [← hwd]; exact OK.words t k (by rw [HST.out]; exact HOK.out i)⟩
          have HWL := words_len shs T t k (st.1, out1)
          rw [hwd] at HG hit hia HWL
          dsimp only at HWL
          have HNX : Aside0 (gWords shs T t (k + 1) (st.1, out1) = gWord shs T (isR shs t k) (t.xs.getD k 0) wd) := ⟨by rw [← hwd]; rfl⟩
          have hwl := OKK.out.len
          have hxl := HTO.out.2.2
          have HOB2 : Aside0 (wd.2.length ≤ 1100000 * 65536 + 2 + 8 * 131072) := ⟨by have := HO1.out; omega⟩
          obtain ⟨ad2, c2, hv, hcx⟩ := HG.out.at hit
          rw [hia] at hcx
          subst hv
          have hwl2 : wd.1.length ≤ 65536 := by omega
          have HIT := Aside0.mk hit
          have HIA := Aside0.mk hia
          have HKS : Aside0 (∀ w vo out, GG W w g W.heap.size b10 b11 bm (.slice (some ad2) wd.1.length c2) wd.1 vo out u7 ls → w.cell? ⟨W.heap.size, 0, none⟩ = some (.pointer (some ⟨g, 0, none⟩)) ∧ w.cell? ⟨b11, 0, none⟩ = some (.slice (some ad2) wd.1.length c2) ∧ w.cell? (ad2.add i) = some (.int .i64 a)) := ⟨fun w vo out h => gg_s h HIT.out HIA.out⟩
          have hitI : (i : Int) < (wd.1.length : Int) := by omega
          have hkm : (k : Int) ≤ 131072 := by omega
          clear hwd HWL hia hcx hwl hxl
          by_cases hkl : k < t.xs.length
          · have hklI : (k : Int) < (t.xs.length : Int) := by omega
            obtain ⟨X, hX⟩ : ∃ X, X = t.xs.getD k 0 := ⟨_, rfl⟩
            have HXR : Aside0 (inR X) := ⟨by rw [hX]; exact HWR.out t (find_ge T _ _ t HTT.out).2.2 _ (by rw [List.getD_eq_getElem?_getD, List.getElem?_eq_getElem hkl]; exact List.getElem_mem _)⟩
            have H20 : Aside0 (∀ w vo out, GG W w g W.heap.size b10 b11 bm (.slice (some ad2) wd.1.length c2) wd.1 vo out u7 ls → Calls Try.prog 20 #[.pointer (some ⟨g, 0, none⟩), .int .i64 a, .int .i64 (k : Int)] w fun e w' => e = .returned (.int .i64 X) ∧ GG W w' g W.heap.size b10 b11 bm (.slice (some ad2) wd.1.length c2) wd.1 vo out u7 ls) := ⟨fun w vo out h => by rw [hX]; exact gg_get HA.out h HTT.out k⟩
            rw [← hX] at HNX
            obtain ⟨z3, z11, zcx⟩ := HKS.out _ _ _ HG.out
            clear hX
            go_wp2_with fail
            go_region_held3 (fun w' : World => w'.cell? ⟨W.heap.size, 0, none⟩ = some (.pointer (some ⟨g, 0, none⟩)) ∧ w'.cell? ⟨b11, 0, none⟩ = some (.slice (some ad2) wd.1.length c2) ∧ w'.cell? (ad2.add i) = some (.int .i64 a)) (first | go_keep | (exact HKS.out _ _ _ HG9.out)) (first | (go_at_call 20; refine (H20.out _ _ _ (HG.out.below (by repeat' first | exact Below.refl _ _ | apply below_drew))).mono ?_; rintro e w9 ⟨rfl, hg9⟩; have HG9 := Aside0.mk hg9; clear hg9))
            clear z3 z11 zcx HG H20 HKS
            have hts : t.s < ls.length := by have h1 := HTO.out.1; rw [HSH.out, List.length_map] at h1; exact h1
            obtain ⟨lc, hlc⟩ : ∃ lc, ls[t.s]? = some lc := ⟨_, List.getElem?_eq_getElem hts⟩
            have hlm : lc ∈ ls := List.mem_of_getElem? hlc
            have HSO := Aside0.mk (ref_at HSH.out hlc)
            have hisS := HISS.out lc hlm
            have HLR := Aside0.mk (HLRS.out lc hlm)
            obtain ⟨ad3, c3, hvs, y0, y1, y2⟩ := HG9.out.call hlc
            subst hvs
            have htsI : (t.s : Int) < (ls.length : Int) := by omega
            have hlsI : (ls.length : Int) ≤ 9223372036854775807 := HLSM.out
            clear hlm hlc hts
            by_cases h1 : lc.x.f0 = 1
            · have e1 : (lc.x.f0 == 1) = true := by simp; omega
              have e0 : (lc.x.f0 == 0) = false := by simp; omega
              have HSF : Aside0 (shOfC lc.x = ⟨[], true, lc.x.f2 == 3⟩) := ⟨by unfold shOfC; rw [if_neg (by omega)]⟩
              by_cases h2 : lc.x.f2 = 3
              · have e2 : (lc.x.f2 == 3) = true := by simp; omega
                have HR : Aside0 (isR shs t k = true) := ⟨by unfold isR; rw [HSO.out, HSF.out, e2]; rfl⟩
                clear h1 h2 hisS
                by_cases g1 : 0 < X
                · by_cases g2 : X < 2147483648
                  · have HV := Aside0.mk (gvisit_calls HA.out HG9.out.gk (by omega) X HXR.out)
                    have HVR := Aside0.mk (vR_range (shs := shs) (T := T) (O := wd.1) (x := X))
                    have HVQ : Aside0 ((vQ shs T wd.1 X).length ≤ 65536) := ⟨by have := ((OKK.out).vis X).len; omega⟩
                    obtain ⟨rv, hrv⟩ : ∃ rv, vR shs T wd.1 X = rv := ⟨_, rfl⟩
                    rw [hrv] at HV HVR
                    have HRV := Aside0.mk hrv
                    obtain ⟨r1, r2⟩ : 0 ≤ rv ∧ rv ≤ 65536 := ⟨HVR.out.1, by have h1 := HVR.out.2; have h2 := HVQ.out; omega⟩
                    clear hrv
                    go_wp2_with (first | (go_at_call 40; (with_reducible refine (HV.out).mono ?_); rintro e w10 ⟨rfl, v9, hm, hk3⟩; have HG10 := Aside0.mk (HG9.out.visited hm hk3); clear hm hk3 HV y0 y1 y2) | ((with_reducible refine gate_dst (N := 155) rfl ?_); at_builtin; refine app_new rfl (.tmp 148) (.tmp 154) 73 5 (.int .u8 0) 1 1 rfl Try.underlying73 info5 rfl (by decide) rfl HG10.out.ou _ 3 rfl rfl (fun u hu => by simp at hu; rcases hu with rfl | rfl | rfl <;> rfl) (by have := HOB2.out; omega) (by have := HOB2.out; omega) HG10.out.gk.bel.size ?_; intro v2 w11 ho hgr; have HG11 := Aside0.mk (GG.put (xs := [114, rv % 256, rv / 256 % 256]) HG10.out rfl ho hgr); clear ho hgr))
                    go_roundw
                    case rel => exact ⟨k + 1, _, by omega, by go_num, ⟨by rw [HNX.out]; unfold gWord; rw [HR.out, if_pos rfl, if_pos ⟨g1, g2⟩, HRV.out]; exact HG11.out⟩⟩
                    case measure => (simp [intOf]; omega)
                  · have g2b : decide (X < 2147483648) = false := by simp; omega
                    go_wp2_with (first | ((with_reducible refine gate_dst (N := 155) rfl ?_); at_builtin; refine app_new rfl (.tmp 148) (.tmp 154) 73 5 (.int .u8 0) 1 1 rfl Try.underlying73 info5 rfl (by decide) rfl HG9.out.ou _ 3 rfl rfl (fun u hu => by simp at hu; rcases hu with rfl | rfl | rfl <;> rfl) (by have := HOB2.out; omega) (by have := HOB2.out; omega) HG9.out.gk.bel.size ?_; intro v2 w11 ho hgr; have HG11 := Aside0.mk (GG.put (xs := [114, 0, 0]) HG9.out rfl ho hgr); clear ho hgr))
                    go_roundw
                    case rel => exact ⟨k + 1, _, by omega, by go_num, ⟨by rw [HNX.out]; unfold gWord; rw [HR.out, if_pos rfl, if_neg (fun h => g2 h.2)]; exact HG11.out⟩⟩
                    case measure => (simp [intOf]; omega)
                · have g1b : decide (0 < X) = false := by simp; omega
                  go_wp2_with (first | ((with_reducible refine gate_dst (N := 155) rfl ?_); at_builtin; refine app_new rfl (.tmp 148) (.tmp 154) 73 5 (.int .u8 0) 1 1 rfl Try.underlying73 info5 rfl (by decide) rfl HG9.out.ou _ 3 rfl rfl (fun u hu => by simp at hu; rcases hu with rfl | rfl | rfl <;> rfl) (by have := HOB2.out; omega) (by have := HOB2.out; omega) HG9.out.gk.bel.size ?_; intro v2 w11 ho hgr; have HG11 := Aside0.mk (GG.put (xs := [114, 0, 0]) HG9.out rfl ho hgr); clear ho hgr))
                  go_roundw
                  case rel => exact ⟨k + 1, _, by omega, by go_num, ⟨by rw [HNX.out]; unfold gWord; rw [HR.out, if_pos rfl, if_neg (fun h => g1 h.1)]; exact HG11.out⟩⟩
                  case measure => (simp [intOf]; omega)
              · have e2 : (lc.x.f2 == 3) = false := by simp; omega
                have HR : Aside0 (isR shs t k = false) := ⟨by unfold isR; rw [HSO.out, HSF.out, e2]; rfl⟩
                clear h1 h2 hisS
                go_wp2_with fail
                clear y0 y1 y2
                go_loopw [13, 156] (fun v13 v156 wr => ∃ b : Nat, b ≤ 8 ∧ v156 = .int .i64 b ∧ Aside0 (GG W wr g W.heap.size b10 b11 bm (.slice (some ad2) wd.1.length c2) wd.1 v13 (wd.2 ++ (wBytes X).take b) (.slice (some ad3) ls.length c3) ls)) (fun _ v156 _ => 8 - (intOf v156).toNat)
                case atStart => exact ⟨0, Nat.zero_le _, rfl, ⟨by simpa using HG9.out⟩⟩
                case round =>
                  obtain ⟨b, hb, rfl, HGB⟩ := hrel
                  by_cases hb8 : b < 8
                  · have hbI : (b : Int) < 8 := by omega
                    have HOB3 : Aside0 ((wd.2 ++ (wBytes X).take b).length ≤ 1100000 * 65536 + 2 + 8 * 131072 + 8) := ⟨by rw [List.length_append, List.length_take]; have := HOB2.out; omega⟩
                    have HTK := Aside0.mk (wb_take X hb8)
                    go_wp2_with (first | ((with_reducible refine gate_dst (N := 166) rfl ?_); at_builtin; refine app_new rfl (.tmp 159) (.tmp 165) 73 5 (.int .u8 0) 1 1 rfl Try.underlying73 info5 rfl (by decide) rfl HGB.out.ou _ 1 rfl rfl (fun u hu => by simp at hu; subst hu; rfl) (by have := HOB3.out; omega) (by have := HOB3.out; omega) HGB.out.gk.bel.size ?_; intro v2 w12 ho hgr; have HGC := Aside0.mk (GG.put (xs := [X / 2 ^ (8 * b) % 256]) HGB.out rfl ho hgr); clear ho hgr))
                    go_roundw
                    case rel => exact ⟨b + 1, by omega, by go_num, ⟨by rw [HTK.out, ← List.append_assoc]; exact HGC.out⟩⟩
                    case measure => (simp [intOf]; omega)
                  · obtain rfl : b = 8 := by omega
                    have hbI : ¬ ((8 : Nat) : Int) < 8 := by omega
                    go_wp2_with fail
                    go_roundw
                    case rel => exact ⟨k + 1, _, by omega, by go_num, ⟨by rw [HNX.out]; unfold gWord; rw [HR.out, if_neg (by decide)]; have := HGB.out; rw [wb_all] at this; exact this⟩⟩
                    case measure => (simp [intOf]; omega)
            · have h0 : lc.x.f0 = 0 := by
                unfold isShape at hisS
                rw [decide_eq_false h1] at hisS
                simpa using hisS
              have e1 : (lc.x.f0 == 1) = false := by simp; omega
              have e0 : (lc.x.f0 == 0) = true := by simp; omega
              have HSF : Aside0 (shOfC lc.x = ⟨lc.x.f1.map (· == 3), false, false⟩) := ⟨by unfold shOfC; rw [if_pos h0]⟩
              have hkf : k < lc.x.f1.length := by
                have h2 := HTO.out.2.1
                rw [HSO.out, HSF.out] at h2
                have h3 := h2 rfl
                rw [List.length_map] at h3
                omega
              obtain ⟨ad4, hA1, hcq⟩ := Kd.at_int HLR.out.r1 (k : Int) (by omega) (by omega)
              rw [Int.toNat_natCast] at hcq
              obtain ⟨q, hq⟩ : ∃ q, q = rd lc.x.f1 (k : Int) := ⟨_, rfl⟩
              rw [← hq] at hcq
              have hcq9 := bcell HG9.out.gk.bel hcq
              have hkfI : (k : Int) < (lc.x.f1.length : Int) := by omega
              have hkfM := Kd.C_max HLR.out.r1
              have HRK : Aside0 (isR shs t k = (q == 3)) := ⟨by
                unfold isR
                rw [HSO.out, HSF.out]
                show (lc.x.f1.map (· == 3)).getD k false = _
                rw [hq]
                unfold rd
                rw [Int.toNat_natCast, List.getD_eq_getElem?_getD, List.getElem?_map, List.getD_eq_getElem?_getD, List.getElem?_eq_getElem hkf]
                rfl⟩
              rw [hA1] at y1
              clear hcq hq hisS h1 h0 hkf
              by_cases h2 : q = 3
              · have eq : (q == 3) = true := by simp; omega
                have HR : Aside0 (isR shs t k = true) := ⟨by rw [HRK.out, eq]⟩
                clear h2
                by_cases g1 : 0 < X
                · by_cases g2 : X < 2147483648
                  · have HV := Aside0.mk (gvisit_calls HA.out HG9.out.gk (by omega) X HXR.out)
                    have HVR := Aside0.mk (vR_range (shs := shs) (T := T) (O := wd.1) (x := X))
                    have HVQ : Aside0 ((vQ shs T wd.1 X).length ≤ 65536) := ⟨by have := ((OKK.out).vis X).len; omega⟩
                    obtain ⟨rv, hrv⟩ : ∃ rv, vR shs T wd.1 X = rv := ⟨_, rfl⟩
                    rw [hrv] at HV HVR
                    have HRV := Aside0.mk hrv
                    obtain ⟨r1, r2⟩ : 0 ≤ rv ∧ rv ≤ 65536 := ⟨HVR.out.1, by have h1 := HVR.out.2; have h2 := HVQ.out; omega⟩
                    clear hrv
                    go_wp2_with (first | (go_at_call 40; (with_reducible refine (HV.out).mono ?_); rintro e w10 ⟨rfl, v9, hm, hk3⟩; have HG10 := Aside0.mk (HG9.out.visited hm hk3); clear hm hk3 HV y0 y1 y2) | ((with_reducible refine gate_dst (N := 155) rfl ?_); at_builtin; refine app_new rfl (.tmp 148) (.tmp 154) 73 5 (.int .u8 0) 1 1 rfl Try.underlying73 info5 rfl (by decide) rfl HG10.out.ou _ 3 rfl rfl (fun u hu => by simp at hu; rcases hu with rfl | rfl | rfl <;> rfl) (by have := HOB2.out; omega) (by have := HOB2.out; omega) HG10.out.gk.bel.size ?_; intro v2 w11 ho hgr; have HG11 := Aside0.mk (GG.put (xs := [114, rv % 256, rv / 256 % 256]) HG10.out rfl ho hgr); clear ho hgr))
                    go_roundw
                    case rel => exact ⟨k + 1, _, by omega, by go_num, ⟨by rw [HNX.out]; unfold gWord; rw [HR.out, if_pos rfl, if_pos ⟨g1, g2⟩, HRV.out]; exact HG11.out⟩⟩
                    case measure => (simp [intOf]; omega)
                  · have g2b : decide (X < 2147483648) = false := by simp; omega
                    go_wp2_with (first | ((with_reducible refine gate_dst (N := 155) rfl ?_); at_builtin; refine app_new rfl (.tmp 148) (.tmp 154) 73 5 (.int .u8 0) 1 1 rfl Try.underlying73 info5 rfl (by decide) rfl HG9.out.ou _ 3 rfl rfl (fun u hu => by simp at hu; rcases hu with rfl | rfl | rfl <;> rfl) (by have := HOB2.out; omega) (by have := HOB2.out; omega) HG9.out.gk.bel.size ?_; intro v2 w11 ho hgr; have HG11 := Aside0.mk (GG.put (xs := [114, 0, 0]) HG9.out rfl ho hgr); clear ho hgr))
                    go_roundw
                    case rel => exact ⟨k + 1, _, by omega, by go_num, ⟨by rw [HNX.out]; unfold gWord; rw [HR.out, if_pos rfl, if_neg (fun h => g2 h.2)]; exact HG11.out⟩⟩
                    case measure => (simp [intOf]; omega)
                · have g1b : decide (0 < X) = false := by simp; omega
                  go_wp2_with (first | ((with_reducible refine gate_dst (N := 155) rfl ?_); at_builtin; refine app_new rfl (.tmp 148) (.tmp 154) 73 5 (.int .u8 0) 1 1 rfl Try.underlying73 info5 rfl (by decide) rfl HG9.out.ou _ 3 rfl rfl (fun u hu => by simp at hu; rcases hu with rfl | rfl | rfl <;> rfl) (by have := HOB2.out; omega) (by have := HOB2.out; omega) HG9.out.gk.bel.size ?_; intro v2 w11 ho hgr; have HG11 := Aside0.mk (GG.put (xs := [114, 0, 0]) HG9.out rfl ho hgr); clear ho hgr))
                  go_roundw
                  case rel => exact ⟨k + 1, _, by omega, by go_num, ⟨by rw [HNX.out]; unfold gWord; rw [HR.out, if_pos rfl, if_neg (fun h => g1 h.1)]; exact HG11.out⟩⟩
                  case measure => (simp [intOf]; omega)
              · have eq : (q == 3) = false := by simp; omega
                have HR : Aside0 (isR shs t k = false) := ⟨by rw [HRK.out, eq]⟩
                clear h2
                go_wp2_with fail
                clear y0 y1 y2 hcq9
                go_loopw [13, 156] (fun v13 v156 wr => ∃ b : Nat, b ≤ 8 ∧ v156 = .int .i64 b ∧ Aside0 (GG W wr g W.heap.size b10 b11 bm (.slice (some ad2) wd.1.length c2) wd.1 v13 (wd.2 ++ (wBytes X).take b) (.slice (some ad3) ls.length c3) ls)) (fun _ v156 _ => 8 - (intOf v156).toNat)
                case atStart => exact ⟨0, Nat.zero_le _, rfl, ⟨by simpa using HG9.out⟩⟩
                case round =>
                  obtain ⟨b, hb, rfl, HGB⟩ := hrel
                  by_cases hb8 : b < 8
                  · have hbI : (b : Int) < 8 := by omega
                    have HOB3 : Aside0 ((wd.2 ++ (wBytes X).take b).length ≤ 1100000 * 65536 + 2 + 8 * 131072 + 8) := ⟨by rw [List.length_append, List.length_take]; have := HOB2.out; omega⟩
                    have HTK := Aside0.mk (wb_take X hb8)
                    go_wp2_with (first | ((with_reducible refine gate_dst (N := 166) rfl ?_); at_builtin; refine app_new rfl (.tmp 159) (.tmp 165) 73 5 (.int .u8 0) 1 1 rfl Try.underlying73 info5 rfl (by decide) rfl HGB.out.ou _ 1 rfl rfl (fun u hu => by simp at hu; subst hu; rfl) (by have := HOB3.out; omega) (by have := HOB3.out; omega) HGB.out.gk.bel.size ?_; intro v2 w12 ho hgr; have HGC := Aside0.mk (GG.put (xs := [X / 2 ^ (8 * b) % 256]) HGB.out rfl ho hgr); clear ho hgr))
                    go_roundw
                    case rel => exact ⟨b + 1, by omega, by go_num, ⟨by rw [HTK.out, ← List.append_assoc]; exact HGC.out⟩⟩
                    case measure => (simp [intOf]; omega)
                  · obtain rfl : b = 8 := by omega
                    have hbI : ¬ ((8 : Nat) : Int) < 8 := by omega
                    go_wp2_with fail
                    go_roundw
                    case rel => exact ⟨k + 1, _, by omega, by go_num, ⟨by rw [HNX.out]; unfold gWord; rw [HR.out, if_neg (by decide)]; have := HGB.out; rw [wb_all] at this; exact this⟩⟩
                    case measure => (simp [intOf]; omega)
          · obtain rfl : k = t.xs.length := by omega
            have hkl2 : ¬ ((t.xs.length : Nat) : Int) < (t.xs.length : Int) := by omega
            go_wp2_with fail
            go_roundw
            case rel => exact ⟨i + 1, _, by go_num, by rw [HNEXT.out, HWD.out]; exact HIT.out, ⟨by rw [HNEXT.out, HWD.out]; exact HG.out⟩⟩
            case measure => (simp [intOf]; omega)
      · obtain ⟨A11, c11, hv⟩ := own_slice' HG.out.gk.own
        subst hv
        have x11 := HG.out.gk.k11.cell (o := 0) (v := .slice A11 st.1.length c11) rfl
        have hie : i = st.1.length := by omega
        have hltI : ¬ (i : Int) < (st.1.length : Int) := by omega
        have hcv := own_string (P := Try.prog) (src := 73) (dst := 9) Try.underlying73 Try.underlying5 Try.underlying9 HG.out.ou
        have HIE := Aside0.mk hie
        clear hie hOK
        go_wp2_with fail
        (try go_ret)
        exact ⟨i, by rw [← HST.out]; exact HIE.out.symm, by rw [← HST.out]; rfl, HG.out.gk.bel⟩
end Go.Proofs.Ytibhjlmffgabgaa.PAll
