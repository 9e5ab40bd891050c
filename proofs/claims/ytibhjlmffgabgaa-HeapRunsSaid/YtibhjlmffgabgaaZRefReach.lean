import Derived.Test.YtibhjlmffgabgaaZRefPure
import Derived.Test.YtibhjlmffgabgaaZG1
import Derived.Laws.OwnMore
namespace Go.Proofs.Ytibhjlmffgabgaa.PAll
open Go.RowKit Go.Proofs.YtibhjlmffgabgaaW.PrintWords Go.Proofs.YtibhjlmffgabgaaW.PrintLast Go.Proofs.YtibhjlmffgabgaaW.PrintMore
open Go.Proofs.Ytibhjlmffgabgaa.MapInt
set_option linter.unusedVariables false
set_option linter.unusedSimpArgs false
theorem app_view {P : Program} {W : World} {ops : Array Oper} {rest : List Oper} {o : Oper} {a : Act} {Q : Exit → Act → World → Prop} (hgd : o.guard = none) (s x : Operand) (t e : TypeId) (bytes : Nat) (ho : o.op = .call { callee := .builtin .append, args := #[s, x], argTypes := #[t, t] })
    (ht : P.underlying t = some (.slice e)) (hinfo : (P.info? e).map (fun i => (i.zero, i.size, i.bytes)) = some (some (.int .i64 0), 1, bytes))
    {B : Nat} (hs : a.eval s = .slice none 0 0) {A : Option Addr} {c : Nat} {l : List Int} (hx : a.eval x = .slice A l.length c) (hl : Kd.C (Kd.int .i64) W A l.length l)
    (hlen : l.length ≤ 9223372036854775807) (hbytes : l.length * bytes ≤ 140737488355328) (hB : B ≤ W.heap.size)
    (hK : ∀ v' w', w'.ownsRow B e 1 v' l.length (nums .i64 l) → W.grownBy w' none → wpList P ops Q rest (a.put o.dst v') w') : wpList P ops Q (o :: rest) a W := by
  obtain ⟨i, hi, hz, hsize, hby⟩ : ∃ i, P.info? e = some i ∧ i.zero = some (.int .i64 0) ∧ i.size = 1 ∧ i.bytes = bytes := by
    cases h : P.info? e with
    | none => rw [h] at hinfo; cases hinfo
    | some i =>
      rw [h] at hinfo
      simp only [Option.map_some, Option.some.injEq, Prod.mk.injEq] at hinfo
      exact ⟨i, rfl, hinfo.1, hinfo.2.1, hinfo.2.2⟩
  have hnil : W.ownsRow B e 1 (.slice none 0 0) 0 [] := ⟨rfl, .inl ⟨rfl, rfl⟩⟩
  cases A with
  | none =>
    have h0 : l = [] := by
      cases l with
      | nil => rfl
      | cons y l => obtain ⟨ad, e, _⟩ := Kd.at_int hl 0 (by omega) (by simp); cases e
    subst h0
    refine wpList_plain hgd fun K' hK' => ?_
    have hrun : (Builtin.append_ #[t, t] o.type #[.slice none 0 0, .slice none 0 c]).run P W = .ok (.slice none 0 0) W := by
      simp [Builtin.append_, run_underlying ht, sizeOf, typeInfo, hi, Builtin.lenOf, Builtin.firstCells]
    unfold Oper.wp
    simp [execOp, ho, resolve, invoke, builtin, hs, hx, hrun, Result.andThen]
    exact hK' _ _ (hK _ _ hnil ⟨rfl, rfl, rfl, Nat.le_refl _, fun _ _ _ => rfl⟩)
  | some ad =>
    refine wpList_append_own_at _ hgd s x t ho B e i (.int .i64 0) 1 bytes ht hi hz hsize hby rfl (by decide) (.slice none 0 0) 0 [] hs hnil ad l.length c (nums .i64 l) hx (by unfold nums; simp) ?_ ?_ (by unfold maxLen; omega) (by rw [Nat.zero_add]; exact hbytes) hB (fun v' w' h2 h3 _ _ => hK v' w' (by rw [Nat.zero_add, List.nil_append] at h2; exact h2) h3)
    · intro j u hu
      unfold nums at hu
      rw [List.getElem?_map] at hu
      cases hj : l[j]? with
      | none => rw [hj] at hu; cases hu
      | some y =>
        rw [hj] at hu
        injection hu with hu; subst hu
        have hjl := (List.getElem?_eq_some_iff.1 hj).1
        obtain ⟨ad', e', hc⟩ := Kd.at_int hl (j : Int) (by omega) (by omega)
        injection e' with e'; subst e'
        rw [Int.toNat_natCast] at hc
        rw [hc]; unfold rd; rw [Int.toNat_natCast, List.getD_eq_getElem?_getD, hj]; rfl
    · intro u hu
      unfold nums at hu
      obtain ⟨y, _, rfl⟩ := List.mem_map.1 hu
      rfl
structure RQ (shs : List S65) (T : List Thg) (w wr : World) (b5 : Nat) (S : Int → Bool) (v6 : Value) (O : List Int) : Prop where
  bel : Below w.heap.size w wr
  box : Blk wr b5 4 (bC (seenL shs T S))
  ge : w.heap.size ≤ b5
  q : QRow wr w.heap.size 3 1 v6 O.length (nums .i64 O)
section
variable {shs : List S65} {T : List Thg} {w wr w2 w3 : World} {b5 : Nat} {S : Int → Bool} {v6 v' : Value} {O O' : List Int}
theorem RQ.below (h : RQ shs T w wr b5 S v6 O) (hb : Below wr.heap.size wr w2) : RQ shs T w w2 b5 S v6 O :=
  ⟨below_step h.bel hb, h.box.below hb, h.ge, q_below h.q hb⟩
theorem RQ.seen (h : RQ shs T w wr b5 S v6 O) {i : Nat} (hi : i < T.length) (hb : Blk w2 b5 4 (bC ((seenL shs T S).set i true))) (hg : wr.grownBy w2 (some b5)) : RQ shs T w w2 b5 (ins S ((1 + sumT shs (T.take i) : Nat) : Int)) v6 O := by
  refine ⟨h.bel.grown hg h.bel.size (fun k e => by injection e with e; have := h.ge; omega), by rw [← seen_set shs T S hi]; exact hb, h.ge, q_kept h.q hg (fun k hk e => q_apart_obj h.q h.box (fun cs e2 => by injection e2 with _ e2; exact absurd e2 (by decide)) k hk e)⟩
theorem RQ.pop {x : Int} (h : RQ shs T w wr b5 S v6 (x :: O)) (hq : QRow wr w.heap.size 3 1 v' O.length ((nums .i64 (x :: O)).drop 1)) : RQ shs T w wr b5 S v' O := ⟨h.bel, h.box, h.ge, hq⟩
theorem RQ.push {x : Int} {o : Obj} {cs : List Value} (h : RQ shs T w wr b5 S v6 O) (hc : cs = [.int .i64 x]) (hq : QRow w2 w.heap.size 3 1 v' (O.length + 1) (nums .i64 O ++ cs)) (hg : (wr.alloc o).grownBy w2 v6.ownBlock) : RQ shs T w w2 b5 S v' (O ++ [x]) := by
  subst hc
  have e : nums .i64 (O ++ [x]) = nums .i64 O ++ [.int .i64 x] := by unfold nums; simp
  refine ⟨(h.bel.alloc h.bel.size o).grown hg (Nat.le_trans h.bel.size (by simp)) (fun k hk => (q_typed h.q k hk).1), ?_, h.ge, by rw [e, List.length_append]; exact hq⟩
  exact (h.box.alloc o).kept hg (fun e => q_apart_obj h.q h.box (fun cs e2 => by injection e2 with _ e2; exact absurd e2 (by decide)) b5 e.symm rfl)
theorem RQ.head {x : Int} (h : RQ shs T w wr b5 S v6 (x :: O)) : ∃ ad c, v6 = .slice (some ad) (O.length + 1) c ∧ wr.cell? ad = some (.int .i64 x) := by
  obtain ⟨A, c, rfl, _⟩ := q_slice h.q
  obtain ⟨ad, rfl, hc⟩ := q_cells h.q (by simp)
  exact ⟨ad, c, by rw [List.length_cons], hc 0 _ rfl⟩
theorem RQ.nil (h : RQ shs T w wr b5 S v6 []) : ∃ A c, v6 = .slice A 0 c := by
  obtain ⟨A, c, rfl, _⟩ := q_slice h.q
  exact ⟨A, c, rfl⟩
end
theorem info3q : (Try.prog.info? 3).map (fun i => (i.zero, i.size, i.bytes)) = some (some (.int .i64 0), 1, 8) := by kernel_rfl
theorem rq_box {shs : List S65} {T : List Thg} {w wr w2 : World} {b5 b8 e : Nat} {S : Int → Bool} {v6 : Value} {O : List Int} {o : Obj} {cs : Array Value} (h : RQ shs T w wr b5 S v6 O) (hx : Blk wr b8 e cs) (he : e ≠ 3) (hg : (wr.alloc o).grownBy w2 v6.ownBlock) : Blk w2 b8 e cs :=
  (hx.alloc o).kept hg (fun e2 => q_apart_obj h.q hx (fun cs e3 => by injection e3 with _ e3; exact he e3) b8 e2.symm rfl)
def ReachR (shs : List S65) (T : List Thg) (roots : List Int) (w' : World) (b5 : Nat) : Prop := ∃ S, Blk w' b5 4 (bC (seenL shs T S)) ∧ ∀ x, S x = true ↔ Rch shs T roots x
section
variable {w w2 : World} {base g : Nat} {Q K : Nat → Prop} {most mv : Int} {ls : List SH} {ts : List TH} {shV thV : Value}
set_option maxHeartbeats 8000000 in
set_option maxRecDepth 100000 in
theorem rreached_calls (h : RM w base Q K g most ls ts mv shV thV) (hf : RF most ls ts) {A : Option Addr} {c : Nat} {roots : List Int} (hr : Kd.C (Kd.int .i64) w A roots.length roots) (hrl : roots.length ≤ 1000000) :
    Calls Try.prog 43 #[.pointer (some ⟨g, 0, none⟩), .slice A roots.length c] w fun e w' => ∃ b5, e = .returned (.slice (some ⟨b5, 0, none⟩) ts.length ts.length) ∧ w.heap.size ≤ b5 ∧ ReachR (cvt ls) (ts.map (·.t)) roots w' b5 ∧ Below w.heap.size w w' := by
  have HM := Aside0.mk h
  have HF := Aside0.mk hf
  have HR := Aside0.mk hr
  obtain ⟨A0, c0, hV⟩ := h.thL
  subst hV
  have c2 := h.c2
  have hfew := hf.few
  clear h hf hr
  have m1 : ∀ w : World, (Instr.makeSlice 60 (.int .i64 (ts.length : Int)) (.int .i64 (ts.length : Int))).run Try.prog w = .ok (.slice (some ⟨w.heap.size, 0, none⟩) ts.length ts.length) (w.alloc (.cells (madeCells #[.bool false] ts.length) 4)) := fun w => run_make_row' 60 4 (.bool false) 1 Try.underlying60 info4b rfl .i64 .i64 ts.length (by omega) (by omega) w
  have HQ0 : Aside0 (∀ v' w', w'.ownsRow w.heap.size 3 1 v' roots.length (nums .i64 roots) → (w.alloc (.cells (madeCells #[.bool false] ts.length) 4)).grownBy w' none → RQ (cvt ls) (ts.map (·.t)) w w' w.heap.size (fun _ => false) v' roots) := ⟨fun v' w' ho hg => by
    refine ⟨((Below.refl w.heap.size w).alloc (Nat.le_refl _) _).grown hg (by simp) (fun k e => by cases e), ?_, Nat.le_refl _, q_of_own ho⟩
    have hb := (Blk.made w 4 (madeCells #[.bool false] ts.length)).kept hg (by simp)
    rw [made_bools] at hb
    rw [seen_none, List.length_map]
    exact hb⟩
  go_enter Try.func43, Try.ntmps43
  go_wp2_with (first | ((with_reducible refine gate_dst (N := 17) rfl ?_); at_builtin; refine app_view rfl (.const (.slice none 0 0)) (.tmp 16) 30 3 8 rfl Try.underlying30 info3q (B := w.heap.size) rfl rfl (Kd.C_below HR.out (below_alloc (Below.refl _ _) _)) (by omega) (by omega) (by simp) ?_; intro v6 w6 ho6 hg6; have HQ := Aside0.mk (HQ0.out v6 w6 ho6 hg6); clear ho6 hg6))
  have HI0 : Aside0 (QI (cvt ls) (ts.map (·.t)) roots (fun _ _ => True) (fun _ => false) roots) := ⟨QI.start⟩
  have hc0 := cnt_le (cvt ls) (ts.map (·.t)) (fun _ => false)
  rw [List.length_map] at hc0
  obtain ⟨i3, hi3, _, hs3, _⟩ := info_split info3q
  have HROOM : Aside0 (sumT (cvt ls) (ts.map (·.t)) ≤ 65536) := ⟨by have := HF.out.room; have := HF.out.bnd.2; omega⟩
  generalize hb5 : w.heap.size = b5 at *
  clear m1 HQ0
  go_loopg [6] (cnt (cvt ls) (ts.map (·.t)) (fun _ => false) * 200000 + roots.length) (fun k v6 wr => ∃ (S : Int → Bool) (O : List Int), k = cnt (cvt ls) (ts.map (·.t)) S * 200000 + O.length ∧ k ≤ 20000000000 ∧ Aside0 (RQ (cvt ls) (ts.map (·.t)) w wr b5 S v6 O) ∧ Aside0 (QI (cvt ls) (ts.map (·.t)) roots (fun _ _ => True) S O))
  case atStart => exact ⟨_, _, rfl, by omega, HQ, HI0⟩
  case round =>
    clear HQ HI0
    obtain ⟨S, O, hk, hkb, HQ, HI⟩ := hrel
    cases O with
    | nil =>
      obtain ⟨A6, c6, rfl⟩ := HQ.out.nil
      clear hk
      go_wp2_with fail
      (try go_ret)
      exact ⟨b5, rfl, by omega, ⟨S, HQ.out.box, HI.out.end_⟩, hb5 ▸ HQ.out.bel⟩
    | cons x O =>
      obtain ⟨ad, c6, rfl, hx0⟩ := HQ.out.head
      rw [List.length_cons] at hk
      obtain ⟨kf, hkf⟩ := FindR.ex ls ts x
      have H42 : Aside0 (∀ wx, Below w.heap.size w wx → Calls Try.prog 42 #[.pointer (some ⟨g, 0, none⟩), .int .i64 x] wx fun e w' => e = .returned (.int .i64 kf) ∧ Below wx.heap.size wx w') := ⟨fun wx hb => rfind_at (HM.out.below hb) HF.out hkf⟩
      obtain ⟨rfl, hn⟩ | ⟨j, t, rfl, ht, hn, ha⟩ := hkf
      · have HI2 := Aside0.mk (HI.out.skip (fun hf => by rw [hn] at hf; cases hf))
        clear hn
        go_wp2_with (first | (go_at_call 42; (with_reducible refine (H42.out _ HQ.out.bel).mono ?_); rintro e w5 ⟨rfl, hq5⟩; have HQ5 := Aside0.mk (HQ.out.below hq5); clear hq5 hx0) | ((with_reducible refine gate_dst (N := 27) rfl ?_); refine q_tail rfl (.tmp 26) 30 3 rfl Try.underlying30 hi3 hs3 rfl HQ5.out.q ?_; intro v7 hq7 ⟨A7, c7, e7⟩ _; subst e7; have HQ7 := Aside0.mk (HQ5.out.pop hq7); clear hq7))
        go_roundg (cnt (cvt ls) (ts.map (·.t)) S * 200000 + O.length)
        case measure => omega
        case rel => exact ⟨S, O, rfl, by omega, HQ7, HI2⟩
      · have hj := (List.getElem?_eq_some_iff.1 ht).1
        have hjT : j < (ts.map (·.t)).length := by rw [List.length_map]; exact hj
        have q1 : (j : Int) < (ts.length : Int) := by omega
        have q2 : decide ((j : Int) < 0) = false := by simp
        have q2b : (0 : Int) ≤ (j : Int) := by omega
        have HB5 : Aside0 (∀ wx v O, RQ (cvt ls) (ts.map (·.t)) w wx b5 S v O → wx.cell? ⟨b5, j, none⟩ = some (.bool (S x))) := ⟨fun wx v O hq => by
          have := hq.box.cell (bC_at (l := seenL (cvt ls) (ts.map (·.t)) S) (i := j) (by rw [seen_len]; exact hjT))
          rw [seen_at _ _ _ hjT, ← ha] at this
          exact this⟩
        cases hS : S x with
        | true =>
          rw [hS] at HB5
          have HI2 := Aside0.mk (HI.out.skip (fun _ => hS))
          clear hn ha hS ht
          go_wp2_with (first | (go_at_call 42; (with_reducible refine (H42.out _ HQ.out.bel).mono ?_); rintro e w5 ⟨rfl, hq5⟩; have HQ5 := Aside0.mk (HQ.out.below hq5); clear hq5 hx0) | ((with_reducible refine gate_dst (N := 27) rfl ?_); refine q_tail rfl (.tmp 26) 30 3 rfl Try.underlying30 hi3 hs3 rfl HQ5.out.q ?_; intro v7 hq7 ⟨A7, c7, e7⟩ _; subst e7; have HQ7 := Aside0.mk (HQ5.out.pop hq7); have b0 := HB5.out _ _ _ HQ7.out; clear hq7))
          go_roundg (cnt (cvt ls) (ts.map (·.t)) S * 200000 + O.length)
          case measure => omega
          case rel => exact ⟨S, O, rfl, by omega, HQ7, HI2⟩
        | false =>
          rw [hS] at HB5
          have hf1 : (findT (cvt ls) (ts.map (·.t)) 1 x).isSome = true := by rw [hn]; rfl
          have HI2 := Aside0.mk (HI.out.take hf1)
          have hcnt := cnt_ins hf1 hS
          have HN := Aside0.mk hn
          have HT := Aside0.mk ht
          have hok := HF.out.things t (List.mem_of_getElem? ht)
          have HOK := Aside0.mk hok
          have hlen := hok.2.2
          have HSET : Aside0 (∀ wx w2 v O, RQ (cvt ls) (ts.map (·.t)) w wx b5 S v O → Blk w2 b5 4 (bC ((seenL (cvt ls) (ts.map (·.t)) S).set j true)) → wx.grownBy w2 (some b5) → RQ (cvt ls) (ts.map (·.t)) w w2 b5 (ins S x) v O) := ⟨fun wx w2 v O hq hb hg => by rw [ha]; exact hq.seen hjT hb hg⟩
          have HCT : Aside0 (∀ wx, Below w.heap.size w wx → wx.cell? ⟨g, 2, none⟩ = some (.slice A0 ts.length c0) ∧ ∃ ad, A0 = some ad ∧ wx.cell? (ad.add (j * 2)) = some (.int .i64 (t.t.s : Int)) ∧ wx.cell? ⟨(ad.add (j * 2)).block, (ad.add (j * 2)).off + 1, none⟩ = some (.slice (some ⟨t.b, 0, none⟩) t.t.xs.length t.t.xs.length)) := ⟨fun w5 hb => by
            have hM := HM.out.below hb
            obtain ⟨ad, c', e, y0, y1⟩ := hM.thing HT.out
            injection e with e1 e2 e3
            exact ⟨hM.c2, ad, e1, y0, y1⟩⟩
          clear hn ha hS ht hf1 hok HI
          go_wp2_with (first | (go_at_call 42; (with_reducible refine (H42.out _ HQ.out.bel).mono ?_); rintro e w5 ⟨rfl, hq5⟩; have HQ5 := Aside0.mk (HQ.out.below hq5); clear hq5 hx0) | ((with_reducible refine gate_dst (N := 27) rfl ?_); refine q_tail rfl (.tmp 26) 30 3 rfl Try.underlying30 hi3 hs3 rfl HQ5.out.q ?_; intro v7 hq7 ⟨A7, c7, e7⟩ _; subst e7; have HQ7 := Aside0.mk (HQ5.out.pop hq7); have b0 := HB5.out _ _ _ HQ7.out; obtain ⟨hb8, hg8, _⟩ := setCell_blk (q := j) (v := .bool true) HQ7.out.box (by rw [bC_size, seen_len]; exact hjT); rw [bC_set] at hb8; have HQ8 := Aside0.mk (HSET.out _ _ _ _ HQ7.out hb8 hg8); have fz := frozen_of_row _ _ j _ _ HQ7.out.box; obtain ⟨d2, ad2, rfl, y0, y1⟩ := HCT.out _ HQ8.out.bel; clear hq7 hb8 hg8))
          have HS8 : Aside0 ((w5.setCell ⟨b5, j, none⟩ (.bool true)).heap.size = w5.heap.size) := ⟨by simp⟩
          clear b0 fz d2 y0 y1
          generalize w5.setCell ⟨b5, j, none⟩ (.bool true) = w8 at *
          have HQ9 := Aside0.mk (HQ8.out.below (below_alloc (Below.refl _ _) (.cells #[.int .i64 (t.t.s : Int), .slice (some ⟨t.b, 0, none⟩) t.t.xs.length t.t.xs.length] 76)))
          have HX9 : Aside0 (Blk (w8.alloc (.cells #[.int .i64 (t.t.s : Int), .slice (some ⟨t.b, 0, none⟩) t.t.xs.length t.t.xs.length] 76)) w5.heap.size 76 #[.int .i64 (t.t.s : Int), .slice (some ⟨t.b, 0, none⟩) t.t.xs.length t.t.xs.length]) := ⟨by rw [← HS8.out]; exact Blk.made w8 76 _⟩
          generalize w8.alloc (.cells #[.int .i64 (t.t.s : Int), .slice (some ⟨t.b, 0, none⟩) t.t.xs.length t.t.xs.length] 76) = w9 at *
          generalize w5.heap.size = b8 at *
          generalize hS2 : ins S x = S2 at *
          clear HQ8 HQ7 HQ5 HQ H42 HB5 HSET HS8
          have HSX : Aside0 (S2 x = true) := ⟨by rw [← hS2]; exact ins_self _ _⟩
          clear hS2
          have HW : Aside0 (∀ wx, Below w.heap.size w wx → ∀ i, i < t.t.xs.length → wx.cell? ⟨t.b, i, none⟩ = some (.int .i64 (t.t.xs.getD i 0))) := ⟨fun wx hb i hi => (((HM.out.below hb).wds t (List.mem_of_getElem? HT.out)).1).cell (wC_at hi)⟩
          have HREF : Aside0 (∀ wx, Below w.heap.size w wx → ∀ i : Nat, i < t.t.xs.length → Calls Try.prog 45 #[.pointer (some ⟨g, 0, none⟩), .agg #[.int .i64 (t.t.s : Int), .slice (some ⟨t.b, 0, none⟩) t.t.xs.length t.t.xs.length], .int .i64 (i : Int)] wx fun e w' => e = .returned (.bool (isR (cvt ls) t.t i)) ∧ Below wx.heap.size wx w') := ⟨fun wx hb i hi => rref_calls (HM.out.below hb) HF.out HOK.out _ _ hi⟩
          clear HCT hj hjT q1 q2 q2b
          generalize hlen2 : t.t.xs.length = n at *
          go_loopg [6, 9] n (fun k2 v6 v9 wr => ∃ (i : Nat) (O2 : List Int), i + k2 = n ∧ v9 = .int .i64 (i : Int) ∧ O2.length ≤ O.length + i ∧ Aside0 (RQ (cvt ls) (ts.map (·.t)) w wr b5 S2 v6 O2) ∧ Aside0 (Blk wr b8 76 #[.int .i64 (t.t.s : Int), .slice (some ⟨t.b, 0, none⟩) n n]) ∧ Aside0 (QI (cvt ls) (ts.map (·.t)) roots (fun b i' => b = x → i' < i) S2 O2))
          case atStart => exact ⟨0, O, by omega, rfl, by omega, HQ9, HX9, HI2⟩
          case round =>
            clear HQ9 HX9 HI2
            obtain ⟨i, O2, hik, rfl, hO2, HQ, HX, HI⟩ := hrel
            obtain ⟨A6, c6', rfl, _⟩ := q_slice HQ.out.q
            have x0 := HX.out.cell (o := 0) (v := .int .i64 (t.t.s : Int)) rfl
            have x1 := HX.out.cell (o := 1) (v := .slice (some ⟨t.b, 0, none⟩) n n) rfl
            have q0 : (0 : Int) ≤ (i : Int) := by omega
            by_cases hi : i < n
            · have q1 : (i : Int) < (n : Int) := by omega
              have q1' : decide (i < n) = true := by simp; omega
              have HPUSH := Aside0.mk (HI.out.push HROOM.out HSX.out HN.out (by rw [hlen2]; exact hi))
              have HR45 := Aside0.mk (fun wx hb => HREF.out wx hb i hi)
              have HWI := Aside0.mk (fun wx hb => HW.out wx hb i hi)
              generalize hr : isR (cvt ls) t.t i = r at *
              generalize hv : t.t.xs.getD i 0 = v at *
              cases r with
              | false =>
                have e1 : adds false v O2 = O2 := by unfold adds; rw [if_neg (by simp)]
                rw [e1] at HPUSH
                clear e1 hr
                go_wp2_with (first | (go_at_call 45; (with_reducible refine (HR45.out _ HQ.out.bel).mono ?_); rintro e w10 ⟨rfl, hb10⟩; have HQ10 := Aside0.mk (HQ.out.below hb10); have HX10 := Aside0.mk (HX.out.below hb10); have z1 := HX10.out.cell (o := 1) (v := .slice (some ⟨t.b, 0, none⟩) n n) rfl; have z2 := HWI.out _ HQ10.out.bel; clear hb10 x0 x1))
                go_roundg (n - (i + 1))
                case measure => omega
                case rel => exact ⟨i + 1, O2, by omega, by go_num, by omega, HQ10, HX10, HPUSH⟩
              | true =>
                by_cases h1 : 0 < v
                · by_cases h2 : v < 2147483648
                  · have e1 : adds true v O2 = O2 ++ [v] := by unfold adds; rw [if_pos ⟨rfl, h1, h2⟩]
                    rw [e1] at HPUSH
                    have h1' : decide (0 < v) = true := by simp; omega
                    have h2' : decide (v < 2147483648) = true := by simp; omega
                    clear e1 hr
                    go_wp2_with (first | (go_at_call 45; (with_reducible refine (HR45.out _ HQ.out.bel).mono ?_); rintro e w10 ⟨rfl, hb10⟩; have HQ10 := Aside0.mk (HQ.out.below hb10); have HX10 := Aside0.mk (HX.out.below hb10); have z1 := HX10.out.cell (o := 1) (v := .slice (some ⟨t.b, 0, none⟩) n n) rfl; have z2 := HWI.out _ HQ10.out.bel; clear hb10 x0 x1) | ((with_reducible refine gate_dst (N := 80) rfl ?_); at_builtin; refine q_app_new rfl (.tmp 73) (.tmp 79) 30 3 (.int .i64 0) 1 8 rfl Try.underlying30 info3q rfl (by decide) rfl HQ10.out.q _ 1 rfl rfl (fun u hu => by simp at hu; subst hu; rfl) (by decide) (by omega) (by omega) HQ10.out.bel.size ?_; intro v11 w11 hq11 hg11; have HQ11 := Aside0.mk (HQ10.out.push (x := v) rfl hq11 hg11); have HX11 := Aside0.mk (rq_box HQ10.out HX10.out (by decide) hg11); clear hq11 hg11 z1 z2))
                    go_roundg (n - (i + 1))
                    case measure => omega
                    case rel => exact ⟨i + 1, O2 ++ [v], by omega, by go_num, by rw [List.length_append]; simp; omega, HQ11, HX11, HPUSH⟩
                  · have e1 : adds true v O2 = O2 := by unfold adds; rw [if_neg (by omega)]
                    rw [e1] at HPUSH
                    have h1' : decide (0 < v) = true := by simp; omega
                    have h2' : decide (v < 2147483648) = false := by simp; omega
                    clear e1 hr
                    go_wp2_with (first | (go_at_call 45; (with_reducible refine (HR45.out _ HQ.out.bel).mono ?_); rintro e w10 ⟨rfl, hb10⟩; have HQ10 := Aside0.mk (HQ.out.below hb10); have HX10 := Aside0.mk (HX.out.below hb10); have z1 := HX10.out.cell (o := 1) (v := .slice (some ⟨t.b, 0, none⟩) n n) rfl; have z2 := HWI.out _ HQ10.out.bel; clear hb10 x0 x1))
                    go_roundg (n - (i + 1))
                    case measure => omega
                    case rel => exact ⟨i + 1, O2, by omega, by go_num, by omega, HQ10, HX10, HPUSH⟩
                · have e1 : adds true v O2 = O2 := by unfold adds; rw [if_neg (by omega)]
                  rw [e1] at HPUSH
                  have h1' : decide (0 < v) = false := by simp; omega
                  clear e1 hr
                  go_wp2_with (first | (go_at_call 45; (with_reducible refine (HR45.out _ HQ.out.bel).mono ?_); rintro e w10 ⟨rfl, hb10⟩; have HQ10 := Aside0.mk (HQ.out.below hb10); have HX10 := Aside0.mk (HX.out.below hb10); have z1 := HX10.out.cell (o := 1) (v := .slice (some ⟨t.b, 0, none⟩) n n) rfl; have z2 := HWI.out _ HQ10.out.bel; clear hb10 x0 x1))
                  go_roundg (n - (i + 1))
                  case measure => omega
                  case rel => exact ⟨i + 1, O2, by omega, by go_num, by omega, HQ10, HX10, HPUSH⟩
            · have q1' : decide (i < n) = false := by simp; omega
              have HI9 := Aside0.mk (HI.out.full HN.out (by rw [hlen2]; omega))
              go_wp2_with fail
              go_roundg (cnt (cvt ls) (ts.map (·.t)) S2 * 200000 + O2.length)
              case measure => omega
              case rel => exact ⟨S2, O2, rfl, by omega, HQ, HI9⟩
end
end Go.Proofs.Ytibhjlmffgabgaa.PAll
