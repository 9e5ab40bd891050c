import Derived.Test.YtibhjlmffgabgaaZGVis
import Derived.Test.YtibhjlmffgabgaaZCallK
import Derived.Test.YtibhjlmffgabgaaZAppStep
namespace Go.Proofs.Ytibhjlmffgabgaa.PAll
open Go.RowKit Go.Proofs.YtibhjlmffgabgaaW.PrintWords Go.Proofs.YtibhjlmffgabgaaW.PrintLast Go.Proofs.YtibhjlmffgabgaaW.PrintMore
open Go.Proofs.Ytibhjlmffgabgaa.MapInt
set_option linter.unusedVariables false
set_option linter.unusedSimpArgs false
structure LC where
  x : S35
  A1 : Option Addr
  c1 : Nat
  A6 : Option Addr
  c6 : Nat
def lcC (l : LC) : List Value := [.int .i64 l.x.f0, .slice l.A1 l.x.f1.length l.c1, .int .i64 l.x.f2, .int .i64 l.x.f3, .int .i64 l.x.f4, .int .i64 l.x.f5, .slice l.A6 l.x.f6.length l.c6]
structure LR (W : World) (l : LC) : Prop where
  r1 : Kd.C (Kd.int .i64) W l.A1 l.x.f1.length l.x.f1
  h1 : l.x.f1.length ≤ l.c1
theorem lc_reps : ∀ ls : List LC, Reps (fun (l : LC) c => c = lcC l) 7 ls (ls.flatMap lcC) := fun ls => by
  refine ⟨by induction ls with
    | nil => rfl
    | cons l ls ih => rw [List.flatMap_cons, List.length_append, ih, List.length_cons]; show 7 + _ = _; omega, ?_⟩
  induction ls with
  | nil => intro j p h; simp at h
  | cons l ls ih =>
    intro j p h
    rw [List.flatMap_cons]
    cases j with
    | zero =>
      simp at h; subst h
      rw [Nat.zero_mul, List.drop_zero]
      exact List.take_left' rfl
    | succ j =>
      rw [List.getElem?_cons_succ] at h
      have h1 : (lcC l).length = 7 := rfl
      rw [Nat.add_mul, Nat.one_mul, Nat.add_comm, ← h1, ← List.drop_drop, List.drop_left, h1]
      exact ih j p h
structure GG (W w : World) (g b3 b10 b11 bm : Nat) (v : Value) (O : List Int) (vo : Value) (out : List Int) (vs : Value) (ls : List LC) : Prop where
  gk : GK W w g b3 b10 b11 bm v O
  ou : w.ownsRow W.heap.size 5 1 vo out.length (nums .u8 out)
  sh : w.ownsRow W.heap.size 35 7 vs ls.length (ls.flatMap lcC)
section
variable {W w w2 : World} {g b3 b10 b11 bm : Nat} {v v2 vo vo2 vs : Value} {O O2 : List Int} {out : List Int} {ls : List LC}
theorem GG.below (h : GG W w g b3 b10 b11 bm v O vo out vs ls) (hb : Below w.heap.size w w2) : GG W w2 g b3 b10 b11 bm v O vo out vs ls := ⟨h.gk.below hb, own_below h.ou hb, own_below h.sh hb⟩
theorem GG.put {o : Obj} {xs : List Int} {cs : List Value} (h : GG W w g b3 b10 b11 bm v O vo out vs ls) (hc : cs = nums .u8 xs) (ho : w2.ownsRow W.heap.size 5 1 vo2 (out.length + xs.length) (nums .u8 out ++ cs)) (hg : (w.alloc o).grownBy w2 vo.ownBlock) : GG W w2 g b3 b10 b11 bm v O vo2 (out ++ xs) vs ls := by
  subst hc
  have ha := h.below ((Below.refl _ _).alloc (Nat.le_refl _) o)
  have hk := ha.gk
  refine ⟨⟨hk.bel.grown hg hk.bel.size (fun k hk2 => (own_row_lt h.ou k hk2).2), hk.k3.kept hg (own_ne_cells h.ou h.gk.k3 (by decide)), hk.k10.kept hg (own_ne_cells h.ou h.gk.k10 (by decide)), hk.k11.kept hg (own_ne_cells h.ou h.gk.k11 (by decide)), hk.map.kept hg (fun e => by
    obtain ⟨_, _, c, hc⟩ := own_block ha.ou e.symm
    exact hk.map.ne_cells hc rfl), own_kept hk.own hg (own_apart hk.own ha.ou (by decide)), hk.g11, hk.gm⟩, ?_, own_kept ha.sh hg (own_apart ha.sh ha.ou (by decide))⟩
  rw [List.length_append, nums_append]
  exact ho
theorem GG.call (h : GG W w g b3 b10 b11 bm v O vo out vs ls) {s : Nat} {l : LC} (hs : ls[s]? = some l) : ∃ ad c, vs = .slice (some ad) ls.length c ∧ w.cell? (ad.add (s * 7)) = some (.int .i64 l.x.f0) ∧ w.cell? ⟨(ad.add (s * 7)).block, (ad.add (s * 7)).off + 1, none⟩ = some (.slice l.A1 l.x.f1.length l.c1) ∧ w.cell? ⟨(ad.add (s * 7)).block, (ad.add (s * 7)).off + 2, none⟩ = some (.int .i64 l.x.f2) := by
  obtain ⟨A, c, rfl, hR⟩ := own_reads_row h.sh (lc_reps ls) rfl
  have hlt := (List.getElem?_eq_some_iff.1 hs).1
  obtain ⟨_, _, h3⟩ := hR
  obtain ⟨ad, rfl, h4⟩ := h3 (by omega)
  obtain ⟨c2, _, rfl, h5⟩ := h4 s l hs
  exact ⟨ad, c, rfl, h5 0 _ rfl, by rw [← add_field _ _ 1 (by omega)]; exact h5 1 _ rfl, by rw [← add_field _ _ 2 (by omega)]; exact h5 2 _ rfl⟩
theorem GG.at (h : GG W w g b3 b10 b11 bm v O vo out vs ls) {i : Nat} (hi : i < O.length) : ∃ ad c, v = .slice (some ad) O.length c ∧ w.cell? (ad.add i) = some (.int .i64 (O.getD i 0)) := by
  have h1 := Kd.R_of_own (enc := Value.int .i64) (h1 := fun _ => rfl) (ok := fun _ => True) h.gk.own (fun _ _ => trivial)
  obtain ⟨A, c, rfl⟩ := own_slice' h.gk.own
  have h2 := Kd.R_reads' h1
  obtain ⟨ad, rfl, hcx⟩ := Kd.at_int h2.2.2 (i : Int) (by omega) (by omega)
  rw [Int.toNat_natCast] at hcx
  exact ⟨ad, c, rfl, by unfold rd at hcx; rw [Int.toNat_natCast] at hcx; exact hcx⟩
end
def wBytes (x : Int) : List Int := (List.range 8).map (fun b => x / 2 ^ (8 * b) % 256)
def gWord (shs : List S65) (T : List Thg) (ref : Bool) (x : Int) (st : List Int × List Int) : List Int × List Int :=
  if ref = true then (if 0 < x ∧ x < 2147483648 then (vQ shs T st.1 x, st.2 ++ [114, vR shs T st.1 x % 256, vR shs T st.1 x / 256 % 256]) else (st.1, st.2 ++ [114, 0, 0]))
  else (st.1, st.2 ++ wBytes x)
def gWords (shs : List S65) (T : List Thg) (t : Thg) : Nat → List Int × List Int → List Int × List Int
  | 0, st => st
  | k + 1, st => gWord shs T (isR shs t k) (t.xs.getD k 0) (gWords shs T t k st)
def gThing (shs : List S65) (T : List Thg) (x : Int) (st : List Int × List Int) : List Int × List Int :=
  match findT shs T 1 x with
  | none => st
  | some t => gWords shs T t t.xs.length (st.1, st.2 ++ [(t.s : Int) % 256, (t.xs.length : Int) % 256])
def gSt (shs : List S65) (T : List Thg) (root : Int) : Nat → List Int × List Int
  | 0 => (vQ shs T [] root, [])
  | i + 1 => gThing shs T ((gSt shs T root i).1.getD i 0) (gSt shs T root i)
structure OK (shs : List S65) (T : List Thg) (O : List Int) : Prop where
  nd : O.Nodup
  th : ∀ x ∈ O, isT shs T x = true
theorem nodup_len : ∀ (O L : List Int), O.Nodup → (∀ x ∈ O, x ∈ L) → O.length ≤ L.length
  | [], L, _, _ => Nat.zero_le _
  | a :: O, L, hn, hs => by
    obtain ⟨h1, h2⟩ := List.nodup_cons.1 hn
    have ha := hs a (by simp)
    have ih := nodup_len O (L.erase a) h2 (fun x hx => (List.mem_erase_of_ne (fun e => h1 (by subst e; exact hx))).2 (hs x (by simp [hx])))
    rw [List.length_erase_of_mem ha] at ih
    have : 0 < L.length := List.length_pos_of_mem ha
    rw [List.length_cons]; omega
theorem OK.len {shs : List S65} {T : List Thg} {O : List Int} (h : OK shs T O) : O.length ≤ T.length := by
  have h1 : ∀ x ∈ O, x ∈ adrs shs T 1 := fun x hx => (find_adrs T 1 x).1 (h.th x hx)
  have h2 := nodup_len O _ h.nd h1
  rw [adrs_len] at h2
  exact h2
theorem OK.vis {shs : List S65} {T : List Thg} {O : List Int} (h : OK shs T O) (x : Int) : OK shs T (vQ shs T O x) := by
  unfold vQ
  split
  · rename_i hx
    refine ⟨List.nodup_append.2 ⟨h.nd, by simp, fun a ha b hb => ?_⟩, fun y hy => ?_⟩
    · simp at hb; subst hb; exact fun e => hx.2 (e ▸ ha)
    · rcases List.mem_append.1 hy with e | e
      · exact h.th y e
      · simp at e; subst e; exact hx.1
  · exact h
theorem OK.word {shs : List S65} {T : List Thg} {st : List Int × List Int} (h : OK shs T st.1) (ref : Bool) (x : Int) : OK shs T (gWord shs T ref x st).1 := by
  unfold gWord
  split
  · split
    · exact h.vis x
    · exact h
  · exact h
theorem OK.words {shs : List S65} {T : List Thg} (t : Thg) : ∀ (k : Nat) {st : List Int × List Int} (h : OK shs T st.1), OK shs T (gWords shs T t k st).1
  | 0, _, h => h
  | k + 1, _, h => (OK.words t k h).word _ _
theorem OK.thing {shs : List S65} {T : List Thg} (x : Int) {st : List Int × List Int} (h : OK shs T st.1) : OK shs T (gThing shs T x st).1 := by
  unfold gThing
  split
  · exact h
  · exact OK.words _ _ h
theorem OK.st (shs : List S65) (T : List Thg) (root : Int) : ∀ i, OK shs T (gSt shs T root i).1
  | 0 => OK.vis ⟨List.nodup_nil, fun x hx => by cases hx⟩ root
  | i + 1 => (OK.st shs T root i).thing _
end Go.Proofs.Ytibhjlmffgabgaa.PAll
