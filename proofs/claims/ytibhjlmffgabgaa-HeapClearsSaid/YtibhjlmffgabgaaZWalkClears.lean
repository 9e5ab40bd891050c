import Derived.Test.YtibhjlmffgabgaaZGraph
import Derived.Test.YtibhjlmffgabgaaZGraphPure
import Derived.Test.YtibhjlmffgabgaaZWalkChains
namespace Go.Proofs.Ytibhjlmffgabgaa.PAll
open Go.RowKit Go.Proofs.YtibhjlmffgabgaaW.PrintWords Go.Proofs.YtibhjlmffgabgaaW.PrintLast Go.Proofs.YtibhjlmffgabgaaW.PrintMore
open Go.Proofs.Ytibhjlmffgabgaa.MapInt
set_option linter.unusedVariables false
set_option linter.unusedSimpArgs false
theorem ints_l (l : List Int) (hl : l.length ≤ 1000000) : ∀ (d k i : Nat), l.length - i ≤ d → d < k → i ≤ l.length → regletref10_Ints.l0 k l l (i : Int) = some true
  | d, 0, i, h1, h2, h3 => by omega
  | d, k + 1, i, h1, h2, h3 => by
    unfold regletref10_Ints.l0
    by_cases hi : i < l.length
    · rw [if_pos (by omega), if_pos (by omega), if_pos (by omega), if_pos rfl]
      have e : wrap64 ((i : Int) + 1) = ((i + 1 : Nat) : Int) := by unfold wrap64; omega
      rw [e]
      cases d with
      | zero => omega
      | succ d => exact ints_l l hl d k (i + 1) (by omega) (by omega) (by omega)
    · rw [if_neg (by omega)]
theorem ints_calls {w : World} {A : Option Addr} {c : Nat} {A1 : Option Addr} {c1 : Nat} {l : List Int} (hl : l.length ≤ 1000000) (h0 : Kd.C (Kd.int .i64) w A l.length l) (hc : l.length ≤ c) (h1 : Kd.C (Kd.int .i64) w A1 l.length l) (hc1 : l.length ≤ c1) :
    Calls Try.prog 19 #[.slice A l.length c, .slice A1 l.length c1] w fun e w' => e = .returned (.bool true) ∧ Below w.heap.size w w' := by
  refine (regletref10_Ints.calls (l.length + 1) A c l A1 c1 l true w h0 hc h1 hc1 ?_).mono (fun e w' ⟨e1, h⟩ => ⟨e1, h.below⟩)
  unfold regletref10_Ints.f
  rw [if_pos rfl]
  exact ints_l l hl l.length (l.length + 1) 0 (by omega) (by omega) (by omega)
structure HM (W w : World) (l : List S35) (g i : Nat) (shs : List S65) (T : List Thg) : Prop where
  gd : ∀ j x, j < i → l[j]? = some x → good x = true
  eq : shs = ((l.take i).filter isShape).map shOfC
  aw : AW W w g 3000 shs T 0
  len : shs.length ≤ i
theorem HM.next {W w w2 : World} {l : List S35} {g i : Nat} {shs : List S65} {T T2 : List Thg} {x : S35} (h : HM W w l g i shs T) (hx : l[i]? = some x) (hg : good x = true) (ha : AW W w2 g 3000 (shs ++ (if isShape x = true then [shOfC x] else [])) T2 0) : HM W w2 l g (i + 1) (shs ++ (if isShape x = true then [shOfC x] else [])) T2 :=
  ⟨fun j y hj hy => by
    rcases Nat.lt_or_ge j i with h1 | h1
    · exact h.gd j y h1 hy
    · obtain rfl : j = i := by omega
      rw [hx] at hy; injection hy with hy; subst hy; exact hg, by rw [take_filter hx, List.map_append, ← h.eq]; split <;> rfl, ha, by rw [List.length_append]; have := h.len; split <;> simp <;> omega⟩
theorem HM.below {W w w2 : World} {l : List S35} {g i : Nat} {shs : List S65} {T : List Thg} (h : HM W w l g i shs T) (hb : Below w.heap.size w w2) : HM W w2 l g i shs T := ⟨h.gd, h.eq, h.aw.below hb, h.len⟩
theorem hm_obj {W w : World} {l : List S35} {g i : Nat} {shs : List S65} {T : List Thg} {c : LC} (h : HM W w l g i shs T) (hi : i ≤ 100) (hx : l[i]? = some c.x) (hg : good c.x = true) (hr : LR W c) (h0 : c.x.f0 = 0) : Calls Try.prog 15 #[.pointer (some ⟨g, 0, none⟩), .slice c.A1 c.x.f1.length c.c1] w fun e w' => (∃ v, e = .returned v) ∧ ∃ s2 T2, HM W w' l g (i + 1) s2 T2 := by
  have hl := h.len
  have h50 : c.x.f1.length ≤ 50 := by
    unfold good at hg
    simp only [Bool.and_eq_true, decide_eq_true_eq] at hg
    exact hg.1
  refine (object_aw h.aw (by omega) (Kd.C_below hr.r1 h.aw.bel) hr.h1 (by omega)).mono ?_
  rintro e w' ⟨rfl, ha⟩
  refine ⟨⟨_, rfl⟩, _, T, h.next hx hg ?_⟩
  have e1 : isShape c.x = true := by unfold isShape; rw [decide_eq_true h0]; rfl
  rw [if_pos e1]
  unfold shOfC
  rw [if_pos h0]; exact ha
theorem hm_arr {W w : World} {l : List S35} {g i : Nat} {shs : List S65} {T : List Thg} {c : LC} (h : HM W w l g i shs T) (hi : i ≤ 100) (hx : l[i]? = some c.x) (hg : good c.x = true) (h1 : c.x.f0 = 1) : Calls Try.prog 11 #[.pointer (some ⟨g, 0, none⟩), .int .i64 c.x.f2] w fun e w' => (∃ v, e = .returned v) ∧ ∃ s2 T2, HM W w' l g (i + 1) s2 T2 := by
  have hl := h.len
  refine (array_aw h.aw (by omega) c.x.f2).mono ?_
  rintro e w' ⟨rfl, ha⟩
  refine ⟨⟨_, rfl⟩, _, T, h.next hx hg ?_⟩
  have e1 : isShape c.x = true := by unfold isShape; rw [decide_eq_true h1]; simp
  rw [if_pos e1]
  unfold shOfC
  rw [if_neg (by omega)]; exact ha
theorem hm_other {W w w2 : World} {l : List S35} {g i : Nat} {shs : List S65} {T T2 : List Thg} {c : LC} (h : HM W w l g i shs T) (hx : l[i]? = some c.x) (hg : good c.x = true) (h0 : c.x.f0 ≠ 0) (h1 : c.x.f0 ≠ 1) (ha : AW W w2 g 3000 shs T2 0) : ∃ s2 T2, HM W w2 l g (i + 1) s2 T2 := by
  refine ⟨_, T2, h.next hx hg ?_⟩
  have e1 : isShape c.x = false := by unfold isShape; rw [decide_eq_false h0, decide_eq_false h1]; rfl
  rw [e1, if_neg (by decide), List.append_nil]; exact ha
theorem hm_make {W w : World} {l : List S35} {g i : Nat} {shs : List S65} {T : List Thg} {c : LC} (h : HM W w l g i shs T) (hx : l[i]? = some c.x) (hg : good c.x = true) (h2 : c.x.f0 = 2) : Calls Try.prog 12 #[.pointer (some ⟨g, 0, none⟩), .int .i64 c.x.f2, .int .i64 c.x.f3] w fun e w' => (∃ v, e = .returned (.int .i64 v)) ∧ ∃ s2 T2, HM W w' l g (i + 1) s2 T2 := by
  refine (make_aw h.aw c.x.f2 c.x.f3).mono ?_
  rintro e w' ⟨rfl, ha⟩
  exact ⟨⟨_, rfl⟩, hm_other h hx hg (by omega) (by omega) ha⟩
theorem hm_set {W w : World} {l : List S35} {g i : Nat} {shs : List S65} {T : List Thg} {c : LC} (h : HM W w l g i shs T) (hx : l[i]? = some c.x) (hg : good c.x = true) (h3 : c.x.f0 = 3) (h5 : inR c.x.f5) : Calls Try.prog 16 #[.pointer (some ⟨g, 0, none⟩), .int .i64 c.x.f4, .int .i64 c.x.f3, .int .i64 c.x.f5] w fun e w' => e = .returned (.tuple #[]) ∧ ∃ s2 T2, HM W w' l g (i + 1) s2 T2 := by
  refine (set_aw h.aw c.x.f4 c.x.f3 c.x.f5 h5).mono ?_
  rintro e w' ⟨rfl, ha⟩
  exact ⟨rfl, hm_other h hx hg (by omega) (by omega) ha⟩
theorem info9 : (Try.prog.info? 9).map (fun i => (i.zero, i.size, i.bytes)) = some (some (.string ⟨#[]⟩), 1, 16) := by kernel_rfl
structure CLS (W wc w : World) (P : Nat → Prop) (g : Nat) (a : Ar) : Prop where
  az : AZ w P g 3000 a.shs a.T a.mv
  ge : ∀ k, P k → W.heap.size ≤ k
  lt : ∀ k, P k → k < wc.heap.size
  bel : Below W.heap.size W w
  sz : wc.heap.size ≤ w.heap.size
  wz : W.heap.size ≤ wc.heap.size
def GrS (shs : List S65) (T : List Thg) (r : Int) (s : ByteArray) : Prop := ∃ N, (gSt shs T r N).1.length = N ∧ s = strOfNums (gSt shs T r N).2
section
variable {W wc w w2 : World} {P : Nat → Prop} {g : Nat} {a a2 : Ar}
theorem CLS.below (h : CLS W wc w P g a) (hb : Below w.heap.size w w2) : CLS W wc w2 P g a := ⟨h.az.below hb, h.ge, h.lt, below_step h.bel hb, Nat.le_trans h.sz hb.size, h.wz⟩
theorem CLS.clear (h : CLS W wc w P g a) (hp : PZa w P g 3000 a2 w2 P) : CLS W wc w2 P g a2 := ⟨hp.az, h.ge, h.lt, h.bel.trans (hp.ch.below (fun k hk hh => by have := h.ge k hh; omega) h.bel.size), Nat.le_trans h.sz hp.ch.size, h.wz⟩
theorem CLS.own {B e size n : Nat} {v : Value} {xs : List Value} (h : CLS W wc w P g a) (ho : w.ownsRow B e size v n xs) (hB : wc.heap.size ≤ B) (hp : PZa w P g 3000 a2 w2 P) : w2.ownsRow B e size v n xs := own_move ho (fun k hk => by
  obtain ⟨h1, h2, _⟩ := own_block ho hk
  exact hp.ch.block k h2 (fun hh => by have := h.lt k hh; omega))
theorem cls_graph {A0 : Option Addr} {c0 : Nat} {l : List S35} {L : Nat} {i0 : Nat} (h : CLS W wc w P g a) (hC : Kd.C k35 W A0 L l) (hL : L ≤ 9223372036854775807) (hst : Stop l i0) (hsh : a.shs = ((l.take i0).filter isShape).map shOfC) {r : Int} (hr : inR r) :
    Calls Try.prog 18 #[.pointer (some ⟨g, 0, none⟩), .slice A0 L c0, .int .i64 r] w fun e w' => ∃ s, GrS a.shs a.T r s ∧ e = .returned (.string s) ∧ Below w.heap.size w w' := by
  refine (graph_calls h.az A0 c0 l L (Kd.C_below hC h.bel) hL r hr hst hsh).mono ?_
  rintro e w' ⟨N, h1, rfl, h2⟩
  exact ⟨_, ⟨N, h1, rfl⟩, rfl, h2⟩
end
theorem gr_same {shs : List S65} {T : List Thg} {roots : List Int} {r : Int} {s s2 : ByteArray} (hr : r ∈ roots) (hT : 1 + sumT shs T ≤ 65537) (h : GrS shs T r s) (h2 : GrS shs (sT shs T roots) (ref1 (sF shs T roots) r) s2) : s2 = s := by
  obtain ⟨N, h1, rfl⟩ := h
  obtain ⟨M, k1, rfl⟩ := h2
  rw [graph_same hr hT h1 k1]
structure GRS (W wc w : World) (P : Nat → Prop) (g : Nat) (a : Ar) (roots : List Int) (vg : Value) (gs : List ByteArray) : Prop where
  cls : CLS W wc w P g a
  own : w.ownsRow wc.heap.size 9 1 vg gs.length (gs.map Value.string)
  all : ∀ j s, gs[j]? = some s → GrS a.shs a.T (roots.getD j 0) s
theorem GRS.put {W wc w w2 w3 : World} {P : Nat → Prop} {g : Nat} {a : Ar} {roots : List Int} {vg v2 : Value} {gs : List ByteArray} {s : ByteArray} {o : Obj} {cs : List Value} (h : GRS W wc w P g a roots vg gs) (hb : Below w.heap.size w w2) (hs : GrS a.shs a.T (roots.getD gs.length 0) s) (hc : cs = [.string s]) (ho : w3.ownsRow wc.heap.size 9 1 v2 (gs.length + 1) (gs.map Value.string ++ cs)) (hg : (w2.alloc o).grownBy w3 vg.ownBlock) : GRS W wc w3 P g a roots v2 (gs ++ [s]) := by
  subst hc
  have h2 := (h.cls.below hb).below (below_alloc (Below.refl _ _) o)
  have ho2 := own_below (own_below h.own hb) (below_alloc (Below.refl _ _) o)
  refine ⟨⟨h2.az.kept hg.size (fun k hk => hg.block k (h2.az.lt k hk) (fun e => ?_)), h2.ge, h2.lt, h2.bel.grown hg h2.bel.size (fun k hk => by have := (own_row_lt ho2 k hk).2; have := h.cls.wz; omega), Nat.le_trans h2.sz hg.size, h2.wz⟩, by rw [List.length_append, List.map_append]; exact ho, fun j t hj => ?_⟩
  · have h9 := (own_block ho2 e.symm).1
    have := h2.lt k hk
    omega
  · rcases Nat.lt_or_ge j gs.length with h1 | h1
    · rw [List.getElem?_append_left h1] at hj
      exact h.all j t hj
    · have hl := (List.getElem?_eq_some_iff.1 hj).1
      rw [List.length_append] at hl
      obtain rfl : j = gs.length := by simp at hl; omega
      rw [List.getElem?_append_right (Nat.le_refl _), Nat.sub_self] at hj
      injection hj with hj; subst hj; exact hs
structure NS (W wc w : World) (P : Nat → Prop) (g : Nat) (a : Ar) (nl : List Int) (R : Nat) (A2 : Option Addr) (c2 : Nat) (vg : Value) (gs : List ByteArray) : Prop where
  cls : CLS W wc w P g a
  now : w.ownsRow wc.heap.size 3 1 (.slice A2 R c2) R (nums .i64 nl)
  gr : w.ownsRow wc.heap.size 9 1 vg gs.length (gs.map Value.string)
  nlen : nl.length = R
section
variable {W wc w w2 : World} {P : Nat → Prop} {g R : Nat} {a a2 : Ar} {nl : List Int} {A2 : Option Addr} {c2 : Nat} {vg : Value} {gs : List ByteArray}
theorem NS.below (h : NS W wc w P g a nl R A2 c2 vg gs) (hb : Below w.heap.size w w2) : NS W wc w2 P g a nl R A2 c2 vg gs := ⟨h.cls.below hb, own_below h.now hb, own_below h.gr hb, h.nlen⟩
theorem NS.clear (h : NS W wc w P g a nl R A2 c2 vg gs) (hp : PZa w P g 3000 a2 w2 P) : NS W wc w2 P g a2 nl R A2 c2 vg gs := ⟨h.cls.clear hp, h.cls.own h.now (Nat.le_refl _) hp, h.cls.own h.gr (Nat.le_refl _) hp, h.nlen⟩
theorem NS.C (h : NS W wc w P g a nl R A2 c2 vg gs) : Kd.C (Kd.int .i64) w A2 R nl ∧ R ≤ c2 := by
  have h1 := h.now
  rw [← h.nlen] at h1
  obtain ⟨A, c, e, hc, hC⟩ := own_C h1
  injection e with e1 e2 e3
  subst e1; subst e3
  rw [h.nlen] at hC hc
  exact ⟨hC, hc⟩
theorem NS.F (h : NS W wc w P g a nl R A2 c2 vg gs) : Kd.F (Kd.int .i64) w (fun k => (Value.slice A2 R c2).ownBlock = some k) A2 nl.length nl := by
  have h1 := h.now
  rw [← h.nlen] at h1
  have h2 := Kd.R_F (Kd.R_of_own (enc := Value.int .i64) (h1 := fun _ => rfl) (ok := fun k => (Value.slice A2 nl.length c2).ownBlock = some k) h1 (fun k hk => hk))
  rw [h.nlen] at h2 ⊢
  exact h2
theorem NS.str (h : NS W wc w P g a nl R A2 c2 vg gs) {i : Nat} {s : ByteArray} (hs : gs[i]? = some s) : ∃ ad c, vg = .slice (some ad) gs.length c ∧ w.cell? (ad.add i) = some (.string s) := by
  obtain ⟨A, c, rfl⟩ := own_slice' h.gr
  have h1 := Kd.R_of_own (enc := Value.string) (h1 := fun _ => rfl) (ok := fun _ => True) h.gr (fun _ _ => trivial)
  obtain ⟨_, _, h3⟩ := (Kd.R_reads' h1).2.2
  have hlt := (List.getElem?_eq_some_iff.1 hs).1
  obtain ⟨ad, rfl, h4⟩ := h3 (by omega)
  obtain ⟨cc, _, rfl, h5⟩ := h4 i s hs
  exact ⟨ad, c, rfl, by have h6 : w.cell? (ad.add (i * 1 + 0)) = some (.string s) := h5 0 _ rfl; simpa using h6⟩
end
theorem now_in {shs : List S65} {T : List Thg} {mv : Int} {roots : List Int} (hT : 1 + sumT shs T ≤ 65537) : ∀ r ∈ nowL ⟨shs, T, mv⟩ roots, inR r := by
  intro r hr
  obtain ⟨x, _, rfl⟩ := List.mem_map.1 hr
  unfold ref1
  cases e : newF shs (rchB shs T roots) T x with
  | none => exact ⟨by decide, by decide⟩
  | some y =>
    have h1 := toF_range shs _ T 1 1 x y e
    have h2 := keep_sum shs (rchB shs T roots) T 1
    show inR y
    exact ⟨by omega, by omega⟩
theorem sum_free {shs : List S65} {T : List Thg} {n : Nat} (h : sumT shs T = n) : freeF 3000 shs T = 3000 - (n : Int) := by unfold freeF; rw [h]; rfl
set_option maxHeartbeats 32000000 in
set_option maxRecDepth 100000 in
theorem clears_x (A0 : Option Addr) (c0 : Nat) (l : List S35) (L : Nat) (A1 : Option Addr) (c1 : Nat) (roots : List Int) (R : Nat) (hR : roots.length = R) (W : World) (hC : Kd.C k35 W A0 L l) (hg : ∀ x ∈ l, inR x.f5) (hr1 : Kd.C (Kd.int .i64) W A1 R roots) (hc1 : R ≤ c1) (hin : ∀ r ∈ roots, inR r) (hL : L ≤ 9223372036854775807) (hRm : R ≤ 9223372036854775807) :
    Calls Try.prog 4 #[.slice A0 L c0, .slice A1 R c1] W fun e W' => e = .returned (.bool true) ∧ Below W.heap.size W W' := by
  have HCL := Aside0.mk (fun i hi => lc_at hC i hi)
  have HCC := Aside0.mk hC
  have HGG := Aside0.mk hg
  have HR1 := Aside0.mk hr1
  have HRR := Aside0.mk hR
  have HIN := Aside0.mk hin
  have HLL : Aside0 (l.length = L) := ⟨hC.1⟩
  have HN : Aside0 (∀ w, Below W.heap.size W w → Calls Try.prog 10 #[.int .i64 3000] w fun e w' => ∃ g, e = .returned (.tuple #[.pointer (some ⟨g, 0, none⟩), .int .i64 0]) ∧ AW W w' g 3000 [] [] 0) := ⟨fun w hb => new_aw hb 3000 (by decide) (by decide)⟩
  clear hC hg hr1 hR hin
  go_enter Try.func4, Try.ntmps4
  go_upto_block 0 with (first | (go_at_call 9; (with_reducible refine (holds_calls _).mono ?_); rintro e w1 ⟨rfl, hb1⟩; have HB1 := Aside0.mk hb1; clear hb1) | (go_at_call 10; (with_reducible refine (HN.out _ HB1.out).mono ?_); rintro e w2 ⟨g, rfl, ha2⟩; have HA2 : Aside0 (HM W w2 l g 0 [] []) := ⟨⟨fun j x h => (by omega), by simp, ha2, Nat.le_refl _⟩⟩; clear ha2 HN HB1))
  go_cut [7] from 8 to 84 (fun v7 wx => ∃ (i : Nat) (shs : List S65) (T : List Thg), Aside0 (Stop l i ∧ HM W wx l g i shs T))
  case first =>
    go_wp2_with fail
    go_loopw [7, 26] (fun v7 v26 wr => ∃ (i : Nat) (shs : List S65) (T : List Thg) (m : Int), i ≤ L ∧ i ≤ 100 ∧ v26 = .int .i64 i ∧ v7 = .int .i64 m ∧ Aside0 (HM W wr l g i shs T)) (fun _ v26 _ => L - (intOf v26).toNat)
    case atStart => exact ⟨0, [], [], 0, Nat.zero_le _, Nat.zero_le _, rfl, rfl, HA2⟩
    case round =>
      clear HA2
      obtain ⟨i, shs, T, m, hi, hi2, rfl, rfl, HG⟩ := hrel
      by_cases hlt : i < L
      · have hltI : (i : Int) < (L : Int) := by omega
        obtain ⟨ad, c, rfl, hx, hlr, hmx, hcell⟩ := HCL.out i hlt
        obtain ⟨y0, y1, y2, y3, y4, y5, y6⟩ := hcell wr HG.out.aw.bel
        have HLR := Aside0.mk hlr
        have HX := Aside0.mk hx
        clear hcell hlr hx
        by_cases h1 : i = 100
        · have b1 : ((i : Int) == 100) = true := by simp; omega
          have HST : Aside0 (Stop l i) := ⟨⟨by have := HLL.out; omega, hi2, HG.out.gd, .inl h1⟩⟩
          clear h1
          go_wp2_with fail
          go_meet
          case rel => exact ⟨i, shs, T, ⟨HST.out, HG.out.below (below_alloc (Below.refl _ _) _)⟩⟩
        have b1 : ((i : Int) == 100) = false := by simp; omega
        have hi3 : i + 1 ≤ 100 := by omega
        clear h1
        by_cases h2 : 50 < c.x.f1.length
        · have b2 : (50 : Int) < (c.x.f1.length : Int) := by omega
          have HST : Aside0 (Stop l i) := ⟨⟨by have := HLL.out; omega, hi2, HG.out.gd, .inr (.inr ⟨c.x, HX.out, by unfold good; rw [decide_eq_false (by omega)]; rfl⟩)⟩⟩
          clear h2
          go_wp2_with fail
          go_meet
          case rel => exact ⟨i, shs, T, ⟨HST.out, HG.out.below (below_alloc (Below.refl _ _) _)⟩⟩
        have b2 : decide ((50 : Int) < (c.x.f1.length : Int)) = false := by simp; omega
        by_cases h3 : c.x.f0 = 2 ∧ 500 < c.x.f3
        · have b3 : (c.x.f0 == 2) = true := by simpa using h3.1
          have b4 : (500 : Int) < c.x.f3 := h3.2
          have HST : Aside0 (Stop l i) := ⟨⟨by have := HLL.out; omega, hi2, HG.out.gd, .inr (.inr ⟨c.x, HX.out, by unfold good; rw [decide_eq_true h3.1, decide_eq_true h3.2]; simp⟩)⟩⟩
          clear h2 h3
          go_wp2_with fail
          go_meet
          case rel => exact ⟨i, shs, T, ⟨HST.out, HG.out.below (below_alloc (Below.refl _ _) _)⟩⟩
        have HGD : Aside0 (good c.x = true) := ⟨by
          unfold good
          rw [decide_eq_true (by omega : c.x.f1.length ≤ 50)]
          by_cases h4 : c.x.f0 = 2
          · rw [decide_eq_true h4, decide_eq_false (fun h5 => h3 ⟨h4, h5⟩)]; rfl
          · rw [decide_eq_false h4]; rfl⟩
        have HGA : Aside0 (HM W (wr.alloc (.cells #[.int .i64 c.x.f0, .slice c.A1 c.x.f1.length c.c1, .int .i64 c.x.f2, .int .i64 c.x.f3, .int .i64 c.x.f4, .int .i64 c.x.f5, .slice c.A6 c.x.f6.length c.c6] 35)) l g i shs T) := ⟨HG.out.below (below_alloc (Below.refl _ _) _)⟩
        clear h2 h3
        by_cases h0 : c.x.f0 = 0
        · have H := Aside0.mk (hm_obj HGA.out hi2 HX.out HGD.out HLR.out h0)
          have e0 : (c.x.f0 == 0) = true := by simp; omega
          have e1 : (c.x.f0 == 1) = false := by simp; omega
          have e2 : (c.x.f0 == 2) = false := by simp; omega
          have e3 : (c.x.f0 == 3) = false := by simp; omega
          clear h0
          go_wp2_with (first | (go_at_call 15; (with_reducible refine (H.out).mono ?_); rintro e w5 ⟨⟨v5, rfl⟩, s2, T2, hh⟩; have HH := Aside0.mk hh; clear hh H y0 y1 y2 y3 y4 y5 y6))
          go_roundw
          case rel => exact ⟨i + 1, s2, T2, m, by omega, by omega, by go_num, rfl, HH⟩
          case measure => (simp [intOf]; omega)
        by_cases h1 : c.x.f0 = 1
        · have H := Aside0.mk (hm_arr HGA.out hi2 HX.out HGD.out h1)
          have e0 : (c.x.f0 == 0) = false := by simp; omega
          have e1 : (c.x.f0 == 1) = true := by simp; omega
          have e2 : (c.x.f0 == 2) = false := by simp; omega
          have e3 : (c.x.f0 == 3) = false := by simp; omega
          clear h0 h1
          go_wp2_with (first | (go_at_call 11; (with_reducible refine (H.out).mono ?_); rintro e w5 ⟨⟨v5, rfl⟩, s2, T2, hh⟩; have HH := Aside0.mk hh; clear hh H y0 y1 y2 y3 y4 y5 y6))
          go_roundw
          case rel => exact ⟨i + 1, s2, T2, m, by omega, by omega, by go_num, rfl, HH⟩
          case measure => (simp [intOf]; omega)
        by_cases h2 : c.x.f0 = 2
        · have H := Aside0.mk (hm_make HGA.out HX.out HGD.out h2)
          have e5 : decide ((500 : Int) < c.x.f3) = false := by
            have := HGD.out
            unfold good at this
            rw [decide_eq_true h2] at this
            cases e : decide ((500 : Int) < c.x.f3) with
            | false => rfl
            | true => rw [e] at this; simp at this
          have e0 : (c.x.f0 == 0) = false := by simp; omega
          have e1 : (c.x.f0 == 1) = false := by simp; omega
          have e2 : (c.x.f0 == 2) = true := by simp; omega
          have e3 : (c.x.f0 == 3) = false := by simp; omega
          clear h0 h1 h2
          go_wp2_with (first | (go_at_call 12; (with_reducible refine (H.out).mono ?_); rintro e w5 ⟨⟨v5, rfl⟩, s2, T2, hh⟩; have HH := Aside0.mk hh; clear hh H y0 y1 y2 y3 y4 y5 y6))
          all_goals
            go_roundw
            case rel => exact ⟨i + 1, s2, T2, _, by omega, by omega, by go_num, rfl, HH⟩
            case measure => (simp [intOf]; omega)
        by_cases h3 : c.x.f0 = 3
        · have H := Aside0.mk (hm_set HGA.out HX.out HGD.out h3 (HGG.out c.x (List.mem_of_getElem? HX.out)))
          have e0 : (c.x.f0 == 0) = false := by simp; omega
          have e1 : (c.x.f0 == 1) = false := by simp; omega
          have e2 : (c.x.f0 == 2) = false := by simp; omega
          have e3 : (c.x.f0 == 3) = true := by simp; omega
          clear h0 h1 h2 h3
          go_wp2_with (first | (go_at_call 16; (with_reducible refine (H.out).mono ?_); rintro e w5 ⟨rfl, s2, T2, hh⟩; have HH := Aside0.mk hh; clear hh H y0 y1 y2 y3 y4 y5 y6))
          go_roundw
          case rel => exact ⟨i + 1, s2, T2, m, by omega, by omega, by go_num, rfl, HH⟩
          case measure => (simp [intOf]; omega)
        have e0 : (c.x.f0 == 0) = false := by simp; omega
        have e1 : (c.x.f0 == 1) = false := by simp; omega
        have e2 : (c.x.f0 == 2) = false := by simp; omega
        have e3 : (c.x.f0 == 3) = false := by simp; omega
        obtain ⟨s2, T2, hh⟩ := hm_other HGA.out HX.out HGD.out h0 h1 HGA.out.aw
        have HH := Aside0.mk hh
        clear h0 h1 h2 h3 hh
        go_wp2_with fail
        go_roundw
        case rel => exact ⟨i + 1, s2, T2, m, by omega, by omega, by go_num, rfl, HH⟩
        case measure => (simp [intOf]; omega)
      · have hltI : ¬ (i : Int) < (L : Int) := by omega
        have HST : Aside0 (Stop l i) := ⟨⟨by have := HLL.out; omega, hi2, HG.out.gd, .inr (.inl (by have := HLL.out; omega))⟩⟩
        go_wp2_with fail
        go_meet
        case rel => exact ⟨i, shs, T, ⟨HST.out, HG.out⟩⟩
  case rest =>
    obtain ⟨i0, shs, T, HC⟩ := hcut
    obtain ⟨P, hAZ, hPW⟩ := HC.out.2.aw.ex
    have hSZ : wc.heap.size ≤ wc.heap.size := Nat.le_refl _
    have HCS : Aside0 (CLS W wc wc P g ⟨shs, T, 0⟩) := ⟨⟨hAZ, hPW, hAZ.lt, HC.out.2.aw.bel, hSZ, HC.out.2.aw.bel.size⟩⟩
    have HT3 : Aside0 (1 + sumT shs T ≤ 65537) := ⟨by obtain ⟨base, _, h⟩ := hAZ.ex; have := h.room; omega⟩
    have HT : Aside0 (1 + sumT shs T ≤ 3001) := ⟨by obtain ⟨base, _, h⟩ := hAZ.ex; have := h.room; omega⟩
    have HGR : Aside0 (∀ w r (a : Ar), a.shs = shs → inR r → CLS W wc w P g a → Calls Try.prog 18 #[.pointer (some ⟨g, 0, none⟩), .slice A0 L c0, .int .i64 r] w fun e w' => ∃ s, GrS a.shs a.T r s ∧ e = .returned (.string s) ∧ Below w.heap.size w w') := ⟨fun w r a ha hr h => cls_graph h HCC.out hL HC.out.1 (by rw [ha]; exact HC.out.2.eq) hr⟩
    clear HCL HCC HGG HLL HA2 hAZ hPW hSZ
    by_cases hR5 : 50 < R
    · have hR5I : (50 : Int) < (R : Int) := by omega
      go_wp2_with fail
      (try go_ret)
      exact ⟨rfl, HCS.out.bel⟩
    have hR5b : decide ((50 : Int) < (R : Int)) = false := by simp; omega
    have hRr := HRR.out
    subst hRr
    have HR17 : Aside0 (Calls Try.prog 17 #[.pointer (some ⟨g, 0, none⟩), .slice A1 roots.length c1] wc fun e w' => e = .returned (.int .i64 (reachN ⟨shs, T, 0⟩ roots : Nat)) ∧ Below wc.heap.size wc w') := ⟨reached_a HCS.out.az (Kd.C_below HR1.out HCS.out.bel) hc1 HIN.out⟩
    have hrho : reachN ⟨shs, T, 0⟩ roots ≤ 3000 := by have := keep_sum shs (rchB shs T roots) T 1; have := HT.out; unfold reachN; dsimp only; omega
    obtain ⟨rho, hrh⟩ : ∃ rho, reachN ⟨shs, T, 0⟩ roots = rho := ⟨_, rfl⟩
    have HRH := Aside0.mk hrh
    rw [hrh] at HR17 hrho
    clear hrh
    go_wp2_with (first | (go_at_call 17; (with_reducible refine (HR17.out).mono ?_); rintro e w3 ⟨rfl, hb3⟩; have HG0 : Aside0 (GRS W wc w3 P g ⟨shs, T, 0⟩ roots (.slice none 0 0) []) := ⟨⟨HCS.out.below hb3, ⟨rfl, .inl ⟨rfl, rfl⟩⟩, fun j s h => (by simp at h)⟩⟩; clear hb3 HR17))
    go_loopw [11, 94] (fun v11 v94 wr => ∃ gs : List ByteArray, gs.length ≤ roots.length ∧ v94 = .int .i64 (gs.length : Nat) ∧ Aside0 (GRS W wc wr P g ⟨shs, T, 0⟩ roots v11 gs)) (fun _ v94 _ => roots.length - (intOf v94).toNat)
    case atStart => exact ⟨[], Nat.zero_le _, rfl, HG0⟩
    case round =>
      clear HG0
      obtain ⟨gs, hgl, rfl, HG⟩ := hrel
      obtain ⟨i, hi⟩ : ∃ i, gs.length = i := ⟨_, rfl⟩
      have hR50 : roots.length ≤ 50 := by omega
      rw [hi] at hgl
      by_cases hlt : i < roots.length
      · have hltI : (i : Int) < (roots.length : Int) := by omega
        obtain ⟨ad, rfl, hcx⟩ := Kd.at_int (Kd.C_below HR1.out HG.out.cls.bel) (i : Int) (by omega) hltI
        rw [Int.toNat_natCast] at hcx
        obtain ⟨r, hr⟩ : ∃ r, r = rd roots (i : Int) := ⟨_, rfl⟩
        rw [← hr] at hcx
        have hrg : roots.getD i 0 = r := by rw [hr]; unfold rd; rw [Int.toNat_natCast]
        have hrm : r ∈ roots := by rw [← hrg, List.getD_eq_getElem?_getD, List.getElem?_eq_getElem hlt]; exact List.getElem_mem _
        have H18 := Aside0.mk (HGR.out wr r ⟨shs, T, 0⟩ rfl (HIN.out r hrm) HG.out.cls)
        have HRG : Aside0 (roots.getD gs.length 0 = r) := ⟨by rw [hi]; exact hrg⟩
        have HI := Aside0.mk hi
        have hi50 : gs.length + 1 ≤ 50 := by omega
        rw [hi]
        clear hr hrg hrm hi
        go_wp2_with (first | (go_at_call 18; (with_reducible refine (H18.out).mono ?_); rintro e w4 ⟨s, hs, rfl, hb4⟩; have HS := Aside0.mk hs; have HB4 := Aside0.mk hb4; clear hs hb4 H18 hcx) | ((with_reducible refine gate_dst (N := 104) rfl ?_); at_builtin; refine app_new rfl (.tmp 98) (.tmp 103) 38 9 (.string ⟨#[]⟩) 1 16 rfl Try.underlying38 info9 rfl (by decide) rfl (own_below HG.out.own HB4.out) _ 1 rfl rfl (fun u hu => by simp at hu; subst hu; rfl) (by omega) (by omega) (Nat.le_trans HG.out.cls.sz HB4.out.size) ?_; intro v2 w5 ho hgr; have HG2 := Aside0.mk (HG.out.put HB4.out (by rw [HRG.out]; exact HS.out) rfl ho hgr); clear ho hgr))
        go_roundw
        case rel => exact ⟨gs ++ [s], by rw [List.length_append, HI.out]; show i + 1 ≤ _; omega, by rw [List.length_append, HI.out]; go_num, HG2⟩
        case measure => (simp [intOf]; omega)
      · have hie : i = roots.length := by omega
        have hltI : ¬ (i : Int) < (roots.length : Int) := by omega
        rw [hi]
        have HGL : Aside0 (gs.length = roots.length) := ⟨by omega⟩
        clear hi hie
        have H14 : Aside0 (Calls Try.prog 14 #[.pointer (some ⟨g, 0, none⟩), .slice A1 roots.length c1] wr fun e w' => ∃ v, e = .returned v ∧ w'.ownsRow wr.heap.size 3 1 v roots.length (nums .i64 (nowL ⟨shs, T, 0⟩ roots)) ∧ PZa wr P g 3000 (clrA ⟨shs, T, 0⟩ roots) w' P) := ⟨clear_a HG.out.cls.az (show (0 : Int) ≤ 0 ∧ (0 : Int) ≤ 1000000000 by decide) (Kd.F_step (Kd.C_F (Kd.heap_int _) HR1.out) (fun k hk hl => HG.out.cls.bel.block k hk)) (fun k hk _ hp => by have := HG.out.cls.ge k hp; omega) hc1 HIN.out (by omega)⟩
        go_wp2_with (first | (go_at_call 14; (with_reducible refine (H14.out).mono ?_); rintro e w4 ⟨v, rfl, hov, hpz⟩; obtain ⟨A2, c2, rfl⟩ := own_slice' hov; have HOV := Aside0.mk hov; have HCL2 := Aside0.mk (HG.out.cls.clear hpz); have HOG := Aside0.mk (HG.out.cls.own HG.out.own (Nat.le_refl _) hpz); clear hov hpz H14))
        have HNS : Aside0 (NS W wc w4 P g (clrA ⟨shs, T, 0⟩ roots) (nowL ⟨shs, T, 0⟩ roots) roots.length A2 c2 u11 gs) := ⟨⟨HCL2.out, own_lower HOV.out HG.out.cls.sz, HOG.out, by unfold nowL; simp⟩⟩
        have hrs : sumT shs (sT shs T roots) = rho := by rw [clr_sum]; exact HRH.out
        have H13 : Aside0 (∀ w, NS W wc w P g (clrA ⟨shs, T, 0⟩ roots) (nowL ⟨shs, T, 0⟩ roots) roots.length A2 c2 u11 gs → Calls Try.prog 13 #[.pointer (some ⟨g, 0, none⟩)] w fun e w' => e = .returned (.int .i64 (3000 - (rho : Int))) ∧ NS W wc w' P g (clrA ⟨shs, T, 0⟩ roots) (nowL ⟨shs, T, 0⟩ roots) roots.length A2 c2 u11 gs) := ⟨fun w h => (free_az h.cls.az).mono (fun e w' ⟨e1, hb⟩ => ⟨by rw [e1]; show Ending.returned (.int .i64 (freeF 3000 shs (sT shs T roots))) = _; rw [sum_free hrs], h.below hb⟩)⟩
        have H17 : Aside0 (∀ w, NS W wc w P g (clrA ⟨shs, T, 0⟩ roots) (nowL ⟨shs, T, 0⟩ roots) roots.length A2 c2 u11 gs → Calls Try.prog 17 #[.pointer (some ⟨g, 0, none⟩), .slice A2 roots.length c2] w fun e w' => e = .returned (.int .i64 (rho : Int)) ∧ NS W wc w' P g (clrA ⟨shs, T, 0⟩ roots) (nowL ⟨shs, T, 0⟩ roots) roots.length A2 c2 u11 gs) := ⟨fun w h => by
          have h1 := reached_a (roots := nowL ⟨shs, T, 0⟩ roots) h.cls.az (by rw [h.nlen]; exact h.C.1) (by rw [h.nlen]; exact h.C.2) (now_in (by have := HT.out; omega))
          rw [h.nlen] at h1
          refine h1.mono (fun e w' ⟨e1, hb⟩ => ⟨?_, h.below hb⟩)
          rw [e1]
          show Ending.returned (.int .i64 ((sumT shs (keepT shs (rchB shs (sT shs T roots) (roots.map (ref1 (sF shs T roots)))) (sT shs T roots) 1) : Nat) : Int)) = _
          rw [again_sum, hrs]⟩
        have hq : 3000 - (3000 - (rho : Int)) = (rho : Int) := by omega
        clear HCL2 HOV HOG hrs
        go_wp2_with (first | ((try (refine gate_guard (by rfl) ?_; dsimp only)); go_at_call 13; (with_reducible refine (H13.out _ HNS.out).mono ?_); rintro e w5 ⟨rfl, hn5⟩; have HN5 := Aside0.mk hn5; clear hn5) | ((try (refine gate_guard (by rfl) ?_; dsimp only)); go_at_call 17; (with_reducible refine (H17.out _ HN5.out).mono ?_); rintro e w6 ⟨rfl, hn6⟩; have HN6 := Aside0.mk hn6; clear hn6))
        clear HNS HN5 hq H17
        obtain ⟨nl, hnl⟩ : ∃ nl, nowL ⟨shs, T, 0⟩ roots = nl := ⟨_, rfl⟩
        have HNL := Aside0.mk hnl
        go_loopw [130] (fun v130 wr => ∃ i : Nat, i ≤ roots.length ∧ v130 = .int .i64 i ∧ Aside0 (NS W wc wr P g (clrA ⟨shs, T, 0⟩ roots) (nowL ⟨shs, T, 0⟩ roots) roots.length A2 c2 u11 gs)) (fun v130 _ => roots.length - (intOf v130).toNat)
        case atStart => exact ⟨0, Nat.zero_le _, rfl, HN6⟩
        case round =>
          clear HN6
          obtain ⟨i, hi, rfl, HNR⟩ := hrel
          by_cases hlt : i < roots.length
          · have hltI : (i : Int) < (roots.length : Int) := by omega
            obtain ⟨ad, hA2, hcx⟩ := Kd.at_int HNR.out.C.1 (i : Int) (by omega) hltI
            rw [Int.toNat_natCast] at hcx
            subst hA2
            obtain ⟨r, hr⟩ : ∃ r, r = roots.getD i 0 := ⟨_, rfl⟩
            have hrm : r ∈ roots := by rw [hr, List.getD_eq_getElem?_getD, List.getElem?_eq_getElem hlt]; exact List.getElem_mem _
            obtain ⟨q, hq⟩ : ∃ q, q = rd (nowL ⟨shs, T, 0⟩ roots) (i : Int) := ⟨_, rfl⟩
            have hqr : q = ref1 (sF shs T roots) r := by
              rw [hq, hr]
              unfold rd nowL
              rw [Int.toNat_natCast, List.getD_eq_getElem?_getD, List.getElem?_map, List.getD_eq_getElem?_getD, List.getElem?_eq_getElem hlt]; rfl
            rw [← hq] at hcx
            obtain ⟨s, hs⟩ : ∃ s, gs[i]? = some s := ⟨_, List.getElem?_eq_getElem (by rw [HGL.out]; exact hlt)⟩
            obtain ⟨adg, cg, hvg, hcs⟩ := HNR.out.str hs
            subst hvg
            have hgs := HG.out.all i s hs
            rw [← hr] at hgs
            have H18 : Aside0 (∀ w, NS W wc w P g (clrA ⟨shs, T, 0⟩ roots) (nowL ⟨shs, T, 0⟩ roots) roots.length (some ad) c2 (.slice (some adg) gs.length cg) gs → Calls Try.prog 18 #[.pointer (some ⟨g, 0, none⟩), .slice A0 L c0, .int .i64 q] w fun e w' => e = .returned (.string s) ∧ NS W wc w' P g (clrA ⟨shs, T, 0⟩ roots) (nowL ⟨shs, T, 0⟩ roots) roots.length (some ad) c2 (.slice (some adg) gs.length cg) gs) := ⟨fun w h => by
              refine (HGR.out w q _ rfl (by rw [hq]; exact now_in (T := T) (shs := shs) (mv := 0) (roots := roots) (by have := HT.out; omega) _ (by unfold rd; rw [Int.toNat_natCast, List.getD_eq_getElem?_getD, List.getElem?_eq_getElem (by rw [HNR.out.nlen]; exact hlt)]; exact List.getElem_mem _)) h.cls).mono ?_
              rintro e w' ⟨s2, h1, rfl, hb⟩
              rw [hqr] at h1
              rw [gr_same hrm HT3.out hgs h1]
              exact ⟨rfl, h.below hb⟩⟩
            have HKC : Aside0 (∀ w, NS W wc w P g (clrA ⟨shs, T, 0⟩ roots) (nowL ⟨shs, T, 0⟩ roots) roots.length (some ad) c2 (.slice (some adg) gs.length cg) gs → w.cell? (adg.add i) = some (.string s)) := ⟨fun w h => by
              obtain ⟨adg2, cg2, e1, e2⟩ := h.str hs
              injection e1 with e1 _ _
              injection e1 with e1
              subst e1
              exact e2⟩
            have HGLI : (i : Int) < (gs.length : Int) := by have := HGL.out; omega
            have hgmI : (gs.length : Int) ≤ 9223372036854775807 := by have := HGL.out; omega
            clear hr hrm hq hqr hgs
            go_wp2_with fail
            go_region_held3 (fun w' : World => w'.cell? (adg.add i) = some (.string s)) (first | go_keep | (exact HKC.out _ HN8.out)) (first | (go_at_call 18; refine (H18.out _ (HNR.out.below (by repeat' first | exact Below.refl _ _ | apply below_drew))).mono ?_; rintro e w8 ⟨rfl, hn8⟩; have HN8 := Aside0.mk hn8; clear hn8))
            go_wp2_with fail
            go_roundw
            case rel => exact ⟨i + 1, by omega, by go_num, HN8⟩
            case measure => (simp [intOf]; omega)
          · obtain rfl : i = roots.length := by omega
            have hltI : ¬ ((roots.length : Nat) : Int) < (roots.length : Int) := by omega
            have H14 : Aside0 (Calls Try.prog 14 #[.pointer (some ⟨g, 0, none⟩), .slice A2 roots.length c2] wr fun e w' => ∃ A3 c3, e = .returned (.slice A3 roots.length c3) ∧ roots.length ≤ c3 ∧ Kd.C (Kd.int .i64) w' A3 roots.length (nowL ⟨shs, T, 0⟩ roots) ∧ NS W wc w' P g (clrA (clrA ⟨shs, T, 0⟩ roots) (nowL ⟨shs, T, 0⟩ roots)) (nowL ⟨shs, T, 0⟩ roots) roots.length A2 c2 u11 gs) := ⟨by
              have hn := HNR.out
              have h1 := clear_a (roots := nowL ⟨shs, T, 0⟩ roots) hn.cls.az (show (0 : Int) ≤ 0 + 1 ∧ (0 : Int) + 1 ≤ 1000000000 by decide) hn.F (fun k hk _ hp => by
                have h2 := (own_block hn.now hk).1
                have h3 := hn.cls.lt k hp
                omega) (by rw [hn.nlen]; exact hn.C.2) (now_in HT3.out) (by rw [hn.nlen]; omega)
              rw [hn.nlen] at h1
              refine h1.mono ?_
              rintro e w' ⟨v, rfl, ho, hp⟩
              have hag : nowL (clrA ⟨shs, T, 0⟩ roots) (nowL ⟨shs, T, 0⟩ roots) = nowL ⟨shs, T, 0⟩ roots := again_same
              rw [hag, ← hn.nlen] at ho
              obtain ⟨A3, c3, rfl, hc3, hC3⟩ := own_C ho
              rw [hn.nlen] at hc3 hC3
              exact ⟨A3, c3, by rw [hn.nlen], hc3, hC3, hn.clear hp⟩⟩
            have HNL2 := HNR.out.nlen
            have HS19 : Aside0 (∀ w A3 c3, roots.length ≤ c3 → Kd.C (Kd.int .i64) w A3 roots.length (nowL ⟨shs, T, 0⟩ roots) → NS W wc w P g (clrA (clrA ⟨shs, T, 0⟩ roots) (nowL ⟨shs, T, 0⟩ roots)) (nowL ⟨shs, T, 0⟩ roots) roots.length A2 c2 u11 gs → Calls Try.prog 19 #[.slice A3 roots.length c3, .slice A2 roots.length c2] w fun e w' => e = .returned (.bool true) ∧ NS W wc w' P g (clrA (clrA ⟨shs, T, 0⟩ roots) (nowL ⟨shs, T, 0⟩ roots)) (nowL ⟨shs, T, 0⟩ roots) roots.length A2 c2 u11 gs) := ⟨fun w A3 c3 hc3 hC3 h => by
              have h1 := ints_calls (l := nowL ⟨shs, T, 0⟩ roots) (by rw [HNL2]; omega) (by rw [HNL2]; exact hC3) (by rw [HNL2]; exact hc3) (by rw [HNL2]; exact h.C.1) (by rw [HNL2]; exact h.C.2)
              rw [HNL2] at h1
              exact h1.mono (fun e w' ⟨e1, hb⟩ => ⟨e1, h.below hb⟩)⟩
            have HF13 : Aside0 (∀ w, NS W wc w P g (clrA (clrA ⟨shs, T, 0⟩ roots) (nowL ⟨shs, T, 0⟩ roots)) (nowL ⟨shs, T, 0⟩ roots) roots.length A2 c2 u11 gs → Calls Try.prog 13 #[.pointer (some ⟨g, 0, none⟩)] w fun e w' => e = .returned (.int .i64 (3000 - (rho : Int))) ∧ Below W.heap.size W w') := ⟨fun w h => (free_az h.cls.az).mono (fun e w' ⟨e1, hb⟩ => ⟨by
              rw [e1]
              show Ending.returned (.int .i64 (freeF 3000 shs (sT shs (sT shs T roots) (roots.map (ref1 (sF shs T roots)))))) = _
              rw [sum_free (n := rho) (by rw [clr_sum, again_sum, clr_sum]; exact HRH.out)], (h.cls.below hb).bel⟩)⟩
            clear HNL2
            go_wp2_with (first | (go_at_call 14; (with_reducible refine (H14.out).mono ?_); rintro e w8 ⟨A3, c3, rfl, hc3, hC3, hn8⟩; have HC3 := Aside0.mk hc3; have HCC3 := Aside0.mk hC3; have HN8 := Aside0.mk hn8; clear hc3 hC3 hn8 H14) | (go_at_call 19; (with_reducible refine (HS19.out _ _ _ HC3.out HCC3.out HN8.out).mono ?_); rintro e w9 ⟨rfl, hn9⟩; have HN9 := Aside0.mk hn9; clear hn9 HS19) | ((try (refine gate_guard (by rfl) ?_; dsimp only)); go_at_call 13; (with_reducible refine (HF13.out _ HN9.out).mono ?_); rintro e w10 ⟨rfl, hb10⟩; have HBE := Aside0.mk hb10; clear hb10))
            (try go_ret)
            exact ⟨rfl, HBE.out⟩
theorem heapClears_walk (A0 : Option Addr) (c0 : Nat) (l : List S35) (A1 : Option Addr) (c1 : Nat) (roots : List Int) (W : World) (hC : Kd.C k35 W A0 l.length l) (hg : ∀ x ∈ l, inR x.f5) (hr1 : Kd.C (Kd.int .i64) W A1 roots.length roots) (hc1 : roots.length ≤ c1) (hin : ∀ r ∈ roots, inR r) :
    Calls Try.prog 4 #[.slice A0 l.length c0, .slice A1 roots.length c1] W fun e W' => e = .returned (.bool true) ∧ Below W.heap.size W W' :=
  clears_x A0 c0 l l.length A1 c1 roots roots.length rfl W hC hg hr1 hc1 hin (Kd.C_max hC) (Kd.C_max hr1)
theorem g35_five {H : Type} {x : S35} {d : DataW H} (h : G35 x d) : inR x.f5 := by
  obtain ⟨d0, d1, d2, d3, d4, d5, d6, _, _, _, _, _, _, h5, _⟩ := h
  exact wf_inR h5.1
end Go.Proofs.Ytibhjlmffgabgaa.PAll
