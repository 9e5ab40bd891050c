import Derived.Test.YtibhjlmffgabgaaZClearPure
import Derived.Test.YtibhjlmffgabgaaZG1
import Derived.Laws.CopyOwn
namespace Go.Proofs.Ytibhjlmffgabgaa.PAll
open Go.RowKit Go.Proofs.YtibhjlmffgabgaaW.PrintWords Go.Proofs.YtibhjlmffgabgaaW.PrintLast Go.Proofs.YtibhjlmffgabgaaW.PrintMore
open Go.Proofs.Ytibhjlmffgabgaa.MapInt
set_option linter.unusedVariables false
set_option linter.unusedSimpArgs false
theorem AM.bound {w : World} {base g gw gs n : Nat} {P : Nat → Prop} {ws : List Int} {sts : List Bool} {nx mv : Int} {shV : Value} {shs : List S65} (h : AM w base P g gw gs n ws sts nx mv shV shs) : AM w base (fun k => P k ∧ k < w.heap.size) g gw gs n ws sts nx mv shV shs :=
  ⟨h.box, h.wds, h.stb, Kd.N_mono (Kd.N_bound h.shp) (fun k hk => ⟨⟨hk.1.1, hk.2⟩, hk.1.2⟩), h.lw, h.ls, ⟨h.pg, h.box.lt⟩, ⟨h.pw, h.wds.lt⟩, ⟨h.ps, h.stb.lt⟩⟩
theorem Chg.grow {W w w2 : World} {P : Nat → Prop} {b : Nat} (h : Chg P W w) (hg : w.grownBy w2 (some b)) (hb : P b ∨ W.heap.size ≤ b) : Chg P W w2 :=
  ⟨hg.os.trans h.os, hg.tape.trans h.tape, hg.output.trans h.output, Nat.le_trans h.size hg.size, fun k hk hn => (hg.block k (Nat.lt_of_lt_of_le hk h.size) (fun e => by
    injection e with e
    subst e
    rcases hb with hb | hb
    · exact hn hb
    · omega)).trans (h.block k hk hn)⟩
structure CK (W w : World) (base : Nat) (P : Nat → Prop) (g gw gs m : Nat) (ws : List Int) (sts : List Bool) (nx mv : Int) (shV : Value) (shs : List S65) (bs bt ns nt : Nat) (S : Int → Bool) (f : Int → Option Int) : Prop where
  am : AM w base P g gw gs m ws sts nx mv shV shs
  hP : ∀ k, P k → k < W.heap.size
  ch : Chg P W w
  kp : ∀ k, P k → k ≠ g ∧ k ≠ gw ∧ k ≠ gs → w.heap[k]? = W.heap[k]?
  sn : BM Try.prog w bs ns S
  tm : IM Try.prog w bt nt f
  hbs : W.heap.size ≤ bs
  hbt : W.heap.size ≤ bt
  ne : bs ≠ bt
section
variable {W w w2 : World} {base g gw gs m bs bt ns nt nt2 : Nat} {P : Nat → Prop} {ws ws2 : List Int} {sts sts2 : List Bool} {nx mv nx2 mv2 : Int} {shV : Value} {shs : List S65} {S : Int → Bool} {f f2 : Int → Option Int}
theorem CK.below (h : CK W w base P g gw gs m ws sts nx mv shV shs bs bt ns nt S f) (hb : Below w.heap.size w w2) : CK W w2 base P g gw gs m ws sts nx mv shV shs bs bt ns nt S f :=
  ⟨h.am.below hb, h.hP, h.ch.trans (Chg.of_below (P := P) hb) (fun k hk => .inl hk), fun k hk hn => (hb.block k (Nat.lt_of_lt_of_le (h.hP k hk) h.ch.size)).trans (h.kp k hk hn), h.sn.below hb, h.tm.below hb, h.hbs, h.hbt, h.ne⟩
theorem CK.mapped (h : CK W w base P g gw gs m ws sts nx mv shV shs bs bt ns nt S f) (hm : IM Try.prog w2 bt nt2 f2) (hg : w.grownBy w2 (some bt)) : CK W w2 base P g gw gs m ws sts nx mv shV shs bs bt ns nt2 S f2 :=
  have hlt : ∀ k, P k → k < w.heap.size ∧ k ≠ bt := fun k hk => ⟨Nat.lt_of_lt_of_le (h.hP k hk) h.ch.size, fun e => by have := h.hP k hk; have := h.hbt; omega⟩
  ⟨h.am.kept (fun k hl hk => hg.block k hl (fun e => (hlt k hk).2 (by injection e))), h.hP, h.ch.grow hg (.inr h.hbt), fun k hk hn => (hg.block k (hlt k hk).1 (fun e => (hlt k hk).2 (by injection e))).trans (h.kp k hk hn), h.sn.kept hg (fun e => h.ne (by injection e)), hm, h.hbs, h.hbt, h.ne⟩
theorem CK.putw (h : CK W w base P g gw gs m ws sts nx mv shV shs bs bt ns nt S f) (hb : Blk w2 gw 2 (wC ws2)) (hg : w.grownBy w2 (some gw)) (hl : ws2.length = m) : CK W w2 base P g gw gs m ws2 sts nx mv shV shs bs bt ns nt S f :=
  ⟨h.am.putw hb hg hl, h.hP, h.ch.grow hg (.inl h.am.pw), fun k hk hn => (hg.block k (Nat.lt_of_lt_of_le (h.hP k hk) h.ch.size) (fun e => hn.2.1 (by injection e))).trans (h.kp k hk hn), h.sn.kept hg (fun e => by injection e with e; exact h.sn.ne_cells h.am.wds e), h.tm.kept hg (fun e => by injection e with e; exact h.tm.ne_cells h.am.wds e), h.hbs, h.hbt, h.ne⟩
theorem CK.puts (h : CK W w base P g gw gs m ws sts nx mv shV shs bs bt ns nt S f) (hb : Blk w2 gs 4 (bC sts2)) (hg : w.grownBy w2 (some gs)) (hl : sts2.length = m) : CK W w2 base P g gw gs m ws sts2 nx mv shV shs bs bt ns nt S f :=
  ⟨h.am.puts hb hg hl, h.hP, h.ch.grow hg (.inl h.am.ps), fun k hk hn => (hg.block k (Nat.lt_of_lt_of_le (h.hP k hk) h.ch.size) (fun e => hn.2.2 (by injection e))).trans (h.kp k hk hn), h.sn.kept hg (fun e => by injection e with e; exact h.sn.ne_cells h.am.stb e), h.tm.kept hg (fun e => by injection e with e; exact h.tm.ne_cells h.am.stb e), h.hbs, h.hbt, h.ne⟩
theorem CK.putg (h : CK W w base P g gw gs m ws sts nx mv shV shs bs bt ns nt S f) (hb : Blk w2 g 63 (arC gw gs m nx2 shV mv2)) (hg : w.grownBy w2 (some g)) : CK W w2 base P g gw gs m ws sts nx2 mv2 shV shs bs bt ns nt S f :=
  ⟨h.am.putg hb hg, h.hP, h.ch.grow hg (.inl h.am.pg), fun k hk hn => (hg.block k (Nat.lt_of_lt_of_le (h.hP k hk) h.ch.size) (fun e => hn.1 (by injection e))).trans (h.kp k hk hn), h.sn.kept hg (fun e => by injection e with e; exact h.sn.ne_cells h.am.box e), h.tm.kept hg (fun e => by injection e with e; exact h.tm.ne_cells h.am.box e), h.hbs, h.hbt, h.ne⟩
end
theorem CK.far {W w w2 : World} {base g gw gs m bs bt ns nt r : Nat} {P : Nat → Prop} {ws : List Int} {sts : List Bool} {nx mv : Int} {shV : Value} {shs : List S65} {S : Int → Bool} {f : Int → Option Int} (h : CK W w base P g gw gs m ws sts nx mv shV shs bs bt ns nt S f) (hg : w.grownBy w2 (some r)) (hr : W.heap.size ≤ r) (h1 : bs ≠ r) (h2 : bt ≠ r) : CK W w2 base P g gw gs m ws sts nx mv shV shs bs bt ns nt S f :=
  have hlt : ∀ k, P k → k < w.heap.size ∧ k ≠ r := fun k hk => ⟨Nat.lt_of_lt_of_le (h.hP k hk) h.ch.size, fun e => by have := h.hP k hk; omega⟩
  ⟨h.am.kept (fun k hl hk => hg.block k hl (fun e => (hlt k hk).2 (by injection e))), h.hP, h.ch.grow hg (.inr hr), fun k hk hn => (hg.block k (hlt k hk).1 (fun e => (hlt k hk).2 (by injection e))).trans (h.kp k hk hn), h.sn.kept hg (fun e => h1 (by injection e)), h.tm.kept hg (fun e => h2 (by injection e)), h.hbs, h.hbt, h.ne⟩
theorem grown_none {w w2 : World} (hg : w.grownBy w2 none) : Below w.heap.size w w2 := ⟨hg.os, hg.tape, hg.output, hg.size, fun k hk => hg.block k hk (fun e => by cases e)⟩
structure CR (W w : World) (base : Nat) (P : Nat → Prop) (g gw gs m : Nat) (ws : List Int) (sts : List Bool) (nx mv : Int) (shV : Value) (shs : List S65) (bs bt ns nt r cnt : Nat) (S : Int → Bool) (f : Int → Option Int) (left : Int → Bool) : Prop where
  ck : CK W w base P g gw gs m ws sts nx mv shV shs bs bt ns nt S f
  rg : RG Try.prog w bt r nt f left cnt
  hr : W.heap.size ≤ r
  hs : ∀ j, j < m → (sts.getD j false = true ↔ ∃ x, inR x ∧ f x = some (j : Int) ∧ left x = false)
section
variable {W w w2 : World} {base g gw gs m bs bt ns nt r cnt cnt2 : Nat} {P : Nat → Prop} {ws : List Int} {sts : List Bool} {nx mv : Int} {shV : Value} {shs : List S65} {S : Int → Bool} {f : Int → Option Int} {left : Int → Bool}
theorem rg_ne_map {P : Program} {b n : Nat} {S : Int → Bool} (h : RG P w bt r nt f left cnt) (hb : BM P w b n S) : b ≠ r := by
  obtain ⟨m, s, q, c, hi⟩ := h.iter
  obtain ⟨es, c2, hm⟩ := hb.isMap
  intro e; subst e; rw [hi] at hm; cases hm
theorem rg_ne_cells {P : Program} {cs : Array Value} {e : TypeId} {b : Nat} (h : RG P w bt r nt f left cnt) (hb : Blk w b e cs) : r ≠ b := by
  obtain ⟨m, s, q, c, hi⟩ := h.iter
  intro e2; subst e2
  unfold Blk at hb
  rw [hi] at hb; cases hb
theorem CR.start (h : CK W w base P g gw gs m ws (List.replicate m false) nx mv shV shs bs bt ns nt S f) (hrg : RG Try.prog w2 bt w.heap.size nt f (fun k => (f k).isSome) cnt) (hg : w.grownBy w2 none) : CR W w2 base P g gw gs m ws (List.replicate m false) nx mv shV shs bs bt ns nt w.heap.size cnt S f (fun k => (f k).isSome) := by
  refine ⟨h.below (grown_none hg), hrg, h.ch.size, fun j hj => ⟨fun e => ?_, fun ⟨x, _, h1, h2⟩ => ?_⟩⟩
  · simp [List.getD_eq_getElem?_getD, hj] at e
  · rw [h1] at h2; cases h2
theorem CR.next {x : Int} (h : CR W w base P g gw gs m ws sts nx mv shV shs bs bt ns nt r cnt S f left) (hrg : RG Try.prog w2 bt r nt f (fun z => left z && !decide (z = x)) cnt2) (hg : w.grownBy w2 (some r)) : CK W w2 base P g gw gs m ws sts nx mv shV shs bs bt ns nt S f :=
  h.ck.far hg h.hr (rg_ne_map h.rg h.ck.sn) (fun e => h.rg.ne e.symm)
theorem CR.put {w3 : World} {x : Int} {j : Nat} (h : CR W w base P g gw gs m ws sts nx mv shV shs bs bt ns nt r cnt S f left) (hk : CK W w2 base P g gw gs m ws sts nx mv shV shs bs bt ns nt S f) (hrg : RG Try.prog w2 bt r nt f (fun z => left z && !decide (z = x)) cnt2) (hx : inR x) (hf : f x = some (j : Int)) (hj : j < m) (hb : Blk w3 gs 4 (bC (sts.set j true))) (hg : w2.grownBy w3 (some gs)) :
    CR W w3 base P g gw gs m ws (sts.set j true) nx mv shV shs bs bt ns nt r cnt2 S f (fun z => left z && !decide (z = x)) := by
  have hl := h.ck.am.ls
  refine ⟨hk.puts hb hg (by rw [List.length_set]; exact hl), hrg.kept hg (fun e => by injection e with e; exact hk.tm.ne_cells hk.am.stb e) (fun e => by injection e with e; exact rg_ne_cells hrg hk.am.stb e), h.hr, fun i hi => ?_⟩
  by_cases e : j = i
  · subst e
    refine ⟨fun _ => ⟨x, hx, hf, by simp⟩, fun _ => ?_⟩
    rw [List.getD_eq_getElem?_getD, List.getElem?_set, if_pos rfl, if_pos (by omega)]; rfl
  · rw [List.getD_eq_getElem?_getD, List.getElem?_set, if_neg e, ← List.getD_eq_getElem?_getD, h.hs i hi]
    constructor
    · rintro ⟨y, h1, h2, h3⟩; exact ⟨y, h1, h2, by simp [h3]⟩
    · rintro ⟨y, h1, h2, h3⟩
      refine ⟨y, h1, h2, ?_⟩
      have hyx : y ≠ x := fun e2 => by
        subst e2; rw [hf] at h2; injection h2 with h2; exact e (by omega)
      simpa [hyx] using h3
end
theorem wC_list (l : List Int) : (wC l).toList = l.map (Value.int .i64) := by unfold wC; simp
theorem step_copy_w {ops : Array Oper} {o : Oper} {a : Act} {Kc : Act → World → Prop} {Q' : Exit → Act → World → Prop} {E : Prop} {W w : World} {base g gw gs m bs bt ns nt : Nat} {P : Nat → Prop} {sts : List Bool} {nx mv : Int} {shV : Value} {shs : List S65} {S : Int → Bool} {f : Int → Option Int} {X mid e R : List Int}
    (h : CK W w base P g gw gs m (X ++ (mid ++ e) ++ R) sts nx mv shV shs bs bt ns nt S f) (hi2 : (Try.prog.info? 2).map (·.size) = some 1) (hgd : o.guard = none) (d s : Operand) (ho : o.op = .call { callee := .builtin .copy, args := #[d, s], argTypes := #[59, 59] })
    {off so dLen dCap sLen sCap : Nat} (hd : a.eval d = .slice (some ⟨gw, off, none⟩) dLen dCap) (hs : a.eval s = .slice (some ⟨gw, so, none⟩) sLen sCap) (hoff : off = X.length) (hso : so = X.length + mid.length) (hn : e.length = Nat.min sLen dLen)
    (hK : ∀ w', CK W w' base P g gw gs m ((X ++ e) ++ (mid ++ e).drop e.length ++ R) sts nx mv shV shs bs bt ns nt S f → w.grownBy w' (some gw) → Kc (a.put o.dst (goInt e.length)) w') :
    if Region.wanted o (yielded ops a.tmps) = true then Oper.wp Try.prog o a w Kc Q' else E := by
  have hw : Region.wanted o (yielded ops a.tmps) = true := by simp [Region.wanted, hgd]
  rw [if_pos hw]
  subst hoff; subst hso
  have hl := h.am.lw
  have hrun := run_copy_row (P := Try.prog) w 59 59 o.type 2 gw X.length dLen dCap ⟨gw, X.length + mid.length, none⟩ sLen sCap (wC (X ++ (mid ++ e) ++ R)) 2 (e.map (Value.int .i64)) Try.underlying59 hi2 h.am.wds (by rw [List.length_map]; exact hn) (fun j v hj => by
      rw [List.getElem?_map] at hj
      cases he : e[j]? with
      | none => rw [he] at hj; cases hj
      | some x =>
        rw [he] at hj
        injection hj with hj
        subst hj
        have hjl := (List.getElem?_eq_some_iff.1 he).1
        have := h.am.cw (i := X.length + mid.length + j) (by rw [← hl]; simp; omega)
        rw [List.getD_eq_getElem?_getD, List.append_assoc, List.getElem?_append_right (by omega), List.append_assoc, List.getElem?_append_right (by omega), List.getElem?_append_left (by omega), show X.length + mid.length + j - X.length - mid.length = j by omega, he] at this
        have e2 : (⟨gw, X.length + mid.length, none⟩ : Addr).add j = ⟨gw, X.length + mid.length + j, none⟩ := by first | rfl | simp [Addr.add]
        rw [e2]; exact this) (by rw [wC_size, List.length_map]; simp; omega) (fun v hv => by obtain ⟨x, _, rfl⟩ := List.mem_map.1 hv; rfl)
  have hcs : ((wC (X ++ (mid ++ e) ++ R)).toList.take X.length ++ e.map (Value.int .i64) ++ (wC (X ++ (mid ++ e) ++ R)).toList.drop (X.length + (e.map (Value.int .i64)).length)).toArray = wC ((X ++ e) ++ (mid ++ e).drop e.length ++ R) := by
    rw [← ws_copy, wC_list, List.length_map, ← List.map_take, ← List.map_drop, ← List.map_append, ← List.map_append]
    unfold wC
    rw [List.append_assoc]
  rw [hcs, List.length_map] at hrun
  have hB : Blk (w.setRow gw (wC ((X ++ e) ++ (mid ++ e).drop e.length ++ R))) gw 2 (wC ((X ++ e) ++ (mid ++ e).drop e.length ++ R)) := setRow_heap w gw _ _ 2 _ h.am.wds
  have hG : w.grownBy (w.setRow gw (wC ((X ++ e) ++ (mid ++ e).drop e.length ++ R))) (some gw) := ⟨rfl, rfl, rfl, by simp [World.setRow], fun k hk hn => setRow_other w gw k _ (fun e => hn (by rw [e]))⟩
  have hcs2 := hK _ (h.putw hB hG (by rw [← hl]; simp; omega)) hG
  generalize w.setRow gw (wC ((X ++ e) ++ (mid ++ e).drop e.length ++ R)) = w9 at *
  unfold Oper.wp
  simp [execOp, ho, resolve, invoke, builtin, hd, hs, hrun, Result.andThen]
  exact hcs2
end Go.Proofs.Ytibhjlmffgabgaa.PAll
