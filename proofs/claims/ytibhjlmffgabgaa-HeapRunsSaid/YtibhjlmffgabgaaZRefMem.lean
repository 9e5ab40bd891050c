import Derived.Test.YtibhjlmffgabgaaZDo
import Derived.Test.YtibhjlmffgabgaaZAppStep
namespace Go.Proofs.Ytibhjlmffgabgaa.PAll
open Go.RowKit Go.Proofs.YtibhjlmffgabgaaW.PrintWords Go.Proofs.YtibhjlmffgabgaaW.PrintLast Go.Proofs.YtibhjlmffgabgaaW.PrintMore
open Go.Proofs.Ytibhjlmffgabgaa.MapInt
set_option linter.unusedVariables false
set_option linter.unusedSimpArgs false
structure SH where
  x : S51
  A : Option Addr
  c : Nat
structure TH where
  t : Thg
  b : Nat
def shC (l : SH) : List Value := [.slice l.A l.x.f0.length l.c, .bool l.x.f1]
def thC (l : TH) : List Value := [.int .i64 (l.t.s : Int), .slice (some ⟨l.b, 0, none⟩) l.t.xs.length l.t.xs.length]
def cvS (x : S51) : S65 := if x.f1 = true then ⟨[], true, x.f0.getD 0 0 == 3⟩ else ⟨x.f0.map (· == 3), false, false⟩
def cvt (ls : List SH) : List S65 := ls.map (fun l => cvS l.x)
theorem reps2 {α : Type} (f : α → List Value) (hf : ∀ x, (f x).length = 2) : ∀ ls : List α, Reps (fun (l : α) c => c = f l) 2 ls (ls.flatMap f) := fun ls => by
  refine ⟨by induction ls with
    | nil => rfl
    | cons l ls ih => rw [List.flatMap_cons, List.length_append, ih, List.length_cons, hf]; omega, ?_⟩
  induction ls with
  | nil => intro j p h; simp at h
  | cons l ls ih =>
    intro j p h
    rw [List.flatMap_cons]
    cases j with
    | zero =>
      simp at h; subst h
      rw [Nat.zero_mul, List.drop_zero]
      exact List.take_left' (hf l)
    | succ j =>
      rw [List.getElem?_cons_succ] at h
      rw [Nat.add_mul, Nat.one_mul, Nat.add_comm, ← hf l, ← List.drop_drop, List.drop_left, hf l]
      exact ih j p h
structure RM (w : World) (base : Nat) (Q K : Nat → Prop) (g : Nat) (most : Int) (ls : List SH) (ts : List TH) (mv : Int) (shV thV : Value) : Prop where
  box : Blk w g 55 #[.int .i64 most, shV, thV, .int .i64 mv]
  sh : w.ownsRow base 51 2 shV ls.length (ls.flatMap shC)
  th : w.ownsRow base 76 2 thV ts.length (ts.flatMap thC)
  kin : ∀ l ∈ ls, Kd.F (Kd.int .i64) w K l.A l.x.f0.length l.x.f0 ∧ l.x.f0.length ≤ l.c
  wds : ∀ t ∈ ts, Blk w t.b 2 (wC t.t.xs) ∧ Q t.b
  nd : (ts.map (·.b)).Nodup
  qg : Q g
  qs : ∀ k, shV.ownBlock = some k → Q k
  qt : ∀ k, thV.ownBlock = some k → Q k
  lt : ∀ k, Q k → k < w.heap.size
  kl : ∀ k, K k → k < w.heap.size
  qk : ∀ k, Q k → ¬ K k
section
variable {w w2 : World} {base g : Nat} {Q K : Nat → Prop} {most mv : Int} {ls : List SH} {ts : List TH} {shV thV : Value}
theorem RM.kept (h : RM w base Q K g most ls ts mv shV thV) (hs : w.heap.size ≤ w2.heap.size) (hk : ∀ k, k < w.heap.size → Q k ∨ K k → w2.heap[k]? = w.heap[k]?) : RM w2 base Q K g most ls ts mv shV thV :=
  ⟨by unfold Blk; rw [hk g h.box.lt (.inl h.qg)]; exact h.box, own_move h.sh (fun k e => hk k (own_row_lt h.sh k e).1 (.inl (h.qs k e))), own_move h.th (fun k e => hk k (own_row_lt h.th k e).1 (.inl (h.qt k e))), fun l hl => ⟨Kd.F_step (h.kin l hl).1 (fun k ho hl => hk k hl (.inr ho)), (h.kin l hl).2⟩, fun t ht => ⟨by unfold Blk; rw [hk t.b (h.wds t ht).1.lt (.inl (h.wds t ht).2)]; exact (h.wds t ht).1, (h.wds t ht).2⟩, h.nd, h.qg, h.qs, h.qt, fun k hq => Nat.lt_of_lt_of_le (h.lt k hq) hs, fun k hq => Nat.lt_of_lt_of_le (h.kl k hq) hs, h.qk⟩
theorem RM.below (h : RM w base Q K g most ls ts mv shV thV) (hb : Below w.heap.size w w2) : RM w2 base Q K g most ls ts mv shV thV := h.kept hb.size (fun k hl _ => hb.block k hl)
theorem RM.apart {P : Nat → Prop} (h : RM w base Q K g most ls ts mv shV thV) (hc : Chg P w w2) (h1 : ∀ k, Q k → ¬ P k) (h2 : ∀ k, K k → ¬ P k) : RM w2 base Q K g most ls ts mv shV thV := h.kept hc.size (fun k hl hk => hc.block k hl (hk.elim (h1 k) (h2 k)))
theorem RM.c0 (h : RM w base Q K g most ls ts mv shV thV) : w.cell? ⟨g, 0, none⟩ = some (.int .i64 most) := h.box.cell rfl
theorem RM.c1 (h : RM w base Q K g most ls ts mv shV thV) : w.cell? ⟨g, 1, none⟩ = some shV := h.box.cell rfl
theorem RM.c2 (h : RM w base Q K g most ls ts mv shV thV) : w.cell? ⟨g, 2, none⟩ = some thV := h.box.cell rfl
theorem RM.c3 (h : RM w base Q K g most ls ts mv shV thV) : w.cell? ⟨g, 3, none⟩ = some (.int .i64 mv) := h.box.cell rfl
theorem RM.shape (h : RM w base Q K g most ls ts mv shV thV) {s : Nat} {l : SH} (hs : ls[s]? = some l) : ∃ ad c, shV = .slice (some ad) ls.length c ∧ w.cell? (ad.add (s * 2)) = some (.slice l.A l.x.f0.length l.c) ∧ w.cell? ⟨(ad.add (s * 2)).block, (ad.add (s * 2)).off + 1, none⟩ = some (.bool l.x.f1) := by
  obtain ⟨A, c, rfl, hR⟩ := own_reads_row h.sh (reps2 shC (fun _ => rfl) ls) rfl
  have hlt := (List.getElem?_eq_some_iff.1 hs).1
  obtain ⟨_, _, h3⟩ := hR
  obtain ⟨ad, rfl, h4⟩ := h3 (by omega)
  obtain ⟨c2, _, rfl, h5⟩ := h4 s l hs
  exact ⟨ad, c, rfl, h5 0 _ rfl, by rw [← add_field _ _ 1 (by omega)]; exact h5 1 _ rfl⟩
theorem RM.thing (h : RM w base Q K g most ls ts mv shV thV) {i : Nat} {t : TH} (hs : ts[i]? = some t) : ∃ ad c, thV = .slice (some ad) ts.length c ∧ w.cell? (ad.add (i * 2)) = some (.int .i64 (t.t.s : Int)) ∧ w.cell? ⟨(ad.add (i * 2)).block, (ad.add (i * 2)).off + 1, none⟩ = some (.slice (some ⟨t.b, 0, none⟩) t.t.xs.length t.t.xs.length) := by
  obtain ⟨A, c, rfl, hR⟩ := own_reads_row h.th (reps2 thC (fun _ => rfl) ts) rfl
  have hlt := (List.getElem?_eq_some_iff.1 hs).1
  obtain ⟨_, _, h3⟩ := hR
  obtain ⟨ad, rfl, h4⟩ := h3 (by omega)
  obtain ⟨c2, _, rfl, h5⟩ := h4 i t hs
  exact ⟨ad, c, rfl, h5 0 _ rfl, by rw [← add_field _ _ 1 (by omega)]; exact h5 1 _ rfl⟩
theorem RM.shL (h : RM w base Q K g most ls ts mv shV thV) : ∃ A c, shV = .slice A ls.length c := own_slice' h.sh
theorem RM.thL (h : RM w base Q K g most ls ts mv shV thV) : ∃ A c, thV = .slice A ts.length c := own_slice' h.th
end
structure RM0 (w : World) (base : Nat) (Q K : Nat → Prop) (g : Nat) (most : Int) (ls : List SH) (mv : Int) (shV thV : Value) : Prop where
  box : Blk w g 55 #[.int .i64 most, shV, thV, .int .i64 mv]
  sh : w.ownsRow base 51 2 shV ls.length (ls.flatMap shC)
  kin : ∀ l ∈ ls, Kd.F (Kd.int .i64) w K l.A l.x.f0.length l.x.f0 ∧ l.x.f0.length ≤ l.c
  qg : Q g
  qs : ∀ k, shV.ownBlock = some k → Q k
  lt : ∀ k, Q k → k < w.heap.size
  kl : ∀ k, K k → k < w.heap.size
  qk : ∀ k, Q k → ¬ K k
section
variable {w w2 : World} {base g : Nat} {Q K : Nat → Prop} {most mv : Int} {ls : List SH} {ts : List TH} {shV thV : Value}
theorem RM.m0 (h : RM w base Q K g most ls ts mv shV thV) : RM0 w base Q K g most ls mv shV thV := ⟨h.box, h.sh, h.kin, h.qg, h.qs, h.lt, h.kl, h.qk⟩
theorem RM0.kept (h : RM0 w base Q K g most ls mv shV thV) (hs : w.heap.size ≤ w2.heap.size) (hk : ∀ k, k < w.heap.size → k = g ∨ shV.ownBlock = some k ∨ K k → w2.heap[k]? = w.heap[k]?) : RM0 w2 base Q K g most ls mv shV thV :=
  ⟨by unfold Blk; rw [hk g h.box.lt (.inl rfl)]; exact h.box, own_move h.sh (fun k e => hk k (own_row_lt h.sh k e).1 (.inr (.inl e))), fun l hl => ⟨Kd.F_step (h.kin l hl).1 (fun k ho hl => hk k hl (.inr (.inr ho))), (h.kin l hl).2⟩, h.qg, h.qs, fun k hq => Nat.lt_of_lt_of_le (h.lt k hq) hs, fun k hq => Nat.lt_of_lt_of_le (h.kl k hq) hs, h.qk⟩
theorem RM0.below (h : RM0 w base Q K g most ls mv shV thV) (hb : Below w.heap.size w w2) : RM0 w2 base Q K g most ls mv shV thV := h.kept hb.size (fun k hl _ => hb.block k hl)
theorem RM0.c1 (h : RM0 w base Q K g most ls mv shV thV) : w.cell? ⟨g, 1, none⟩ = some shV := h.box.cell rfl
theorem RM0.shape (h : RM0 w base Q K g most ls mv shV thV) {s : Nat} {l : SH} (hs : ls[s]? = some l) : ∃ ad c, shV = .slice (some ad) ls.length c ∧ w.cell? (ad.add (s * 2)) = some (.slice l.A l.x.f0.length l.c) ∧ w.cell? ⟨(ad.add (s * 2)).block, (ad.add (s * 2)).off + 1, none⟩ = some (.bool l.x.f1) := by
  obtain ⟨A, c, rfl, hR⟩ := own_reads_row h.sh (reps2 shC (fun _ => rfl) ls) rfl
  have hlt := (List.getElem?_eq_some_iff.1 hs).1
  obtain ⟨_, _, h3⟩ := hR
  obtain ⟨ad, rfl, h4⟩ := h3 (by omega)
  obtain ⟨c2, _, rfl, h5⟩ := h4 s l hs
  exact ⟨ad, c, rfl, h5 0 _ rfl, by rw [← add_field _ _ 1 (by omega)]; exact h5 1 _ rfl⟩
end
structure RF (most : Int) (ls : List SH) (ts : List TH) : Prop where
  bnd : 1 ≤ most ∧ most ≤ 65536
  room : (sumT (cvt ls) (ts.map (·.t)) : Int) ≤ most
  things : ∀ t ∈ ts, okT (cvt ls) t.t
  arr : ∀ l ∈ ls, l.x.f1 = true → 0 < l.x.f0.length
  shl : ∀ l ∈ ls, l.x.f0.length ≤ 1000
  wrd : ∀ t ∈ ts, ∀ x ∈ t.t.xs, inR x
  len : ls.length ≤ 100000
theorem cv_at {ls : List SH} {s : Nat} {l : SH} (h : ls[s]? = some l) : shOf (cvt ls) s = cvS l.x := by
  unfold shOf cvt
  rw [List.getD_eq_getElem?_getD, List.getElem?_map, h]; rfl
theorem cv_len (ls : List SH) : (cvt ls).length = ls.length := by unfold cvt; simp
theorem cv_f1 (x : S51) : (cvS x).f1 = x.f1 := by unfold cvS; split <;> simp_all
theorem cv_f0 {x : S51} (h : x.f1 = false) : (cvS x).f0.length = x.f0.length := by unfold cvS; rw [if_neg (by rw [h]; decide)]; simp
set_option maxHeartbeats 8000000 in
set_option maxRecDepth 100000 in
theorem rsize_calls {w : World} {base g : Nat} {Q K : Nat → Prop} {most mv : Int} {ls : List SH} {ts : List TH} {shV thV : Value} (h : RM w base Q K g most ls ts mv shV thV) (hf : RF most ls ts) (s n : Int) :
    Calls Try.prog 26 #[.pointer (some ⟨g, 0, none⟩), .int .i64 s, .int .i64 n] w fun e w' => e = .returned (.int .i64 (sizeF (cvt ls) s n)) ∧ Below w.heap.size w w' := by
  obtain ⟨A, c, hV⟩ := h.shL
  subst hV
  have c1 := h.c1
  have hlen := hf.len
  have HB := Aside0.mk (Below.refl w.heap.size w)
  unfold sizeF
  rw [cv_len]
  by_cases h1 : s < 0
  · rw [if_pos (.inl h1)]
    clear h hf
    go_enter Try.func26, Try.ntmps26
    go_wp2_with fail
    (try go_ret)
    exact ⟨rfl, HB.out⟩
  by_cases h2 : (ls.length : Int) ≤ s
  · rw [if_pos (.inr (.inl h2))]
    have h1' : decide (s < 0) = false := by simp; omega
    clear h hf h1
    go_enter Try.func26, Try.ntmps26
    go_wp2_with fail
    (try go_ret)
    exact ⟨rfl, HB.out⟩
  by_cases h3 : n < 0
  · rw [if_pos (.inr (.inr (.inl h3)))]
    have h1' : decide (s < 0) = false := by simp; omega
    have h2' : decide ((ls.length : Int) ≤ s) = false := by simp; omega
    clear h hf h1 h2
    go_enter Try.func26, Try.ntmps26
    go_wp2_with fail
    (try go_ret)
    exact ⟨rfl, HB.out⟩
  by_cases h4 : 131072 < n
  · rw [if_pos (.inr (.inr (.inr h4)))]
    have h1' : decide (s < 0) = false := by simp; omega
    have h2' : decide ((ls.length : Int) ≤ s) = false := by simp; omega
    have h3' : decide (n < 0) = false := by simp; omega
    clear h hf h1 h2 h3
    go_enter Try.func26, Try.ntmps26
    go_wp2_with fail
    (try go_ret)
    exact ⟨rfl, HB.out⟩
  rw [if_neg (by omega)]
  obtain ⟨k, rfl⟩ : ∃ k : Nat, s = k := ⟨s.toNat, by omega⟩
  have hk : k < ls.length := by omega
  obtain ⟨l, hl⟩ : ∃ l, ls[k]? = some l := ⟨_, List.getElem?_eq_getElem hk⟩
  obtain ⟨ad, c', e, y0, y1⟩ := h.shape hl
  injection e with e1 e2 e3
  subst e1; subst e3
  have hm := hf.shl l (List.mem_of_getElem? hl)
  rw [Int.toNat_natCast, cv_at hl, cv_f1]
  have h1' : decide ((k : Int) < 0) = false := by simp
  have h2' : decide ((ls.length : Int) ≤ (k : Int)) = false := by simp; omega
  have h3' : decide (n < 0) = false := by simp; omega
  have h4' : decide (131072 < n) = false := by simp; omega
  have h5 : 0 ≤ n ∧ n ≤ 131072 := by omega
  have h6 : (k : Int) < (ls.length : Int) := by omega
  obtain ⟨h5a, h5b⟩ := h5
  cases hb : l.x.f1 with
  | true =>
    rw [hb] at y1
    rw [if_pos rfl]
    clear h hf h1 h2 h3 h4 hl hk
    go_enter Try.func26, Try.ntmps26
    go_wp2_with fail
    (try go_ret)
    exact ⟨rfl, HB.out⟩
  | false =>
    rw [hb] at y1
    rw [if_neg (by decide), cv_f0 hb]
    clear h hf h1 h2 h3 h4 hl hk
    go_enter Try.func26, Try.ntmps26
    go_wp2_with fail
    (try go_ret)
    exact ⟨rfl, HB.out⟩
end Go.Proofs.Ytibhjlmffgabgaa.PAll
