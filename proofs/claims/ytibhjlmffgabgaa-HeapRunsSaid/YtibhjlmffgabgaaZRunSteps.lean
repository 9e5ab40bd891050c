import Derived.Test.YtibhjlmffgabgaaZRefRun
namespace Go.Proofs.Ytibhjlmffgabgaa.PAll
open Go.RowKit Go.Proofs.YtibhjlmffgabgaaW.PrintWords Go.Proofs.YtibhjlmffgabgaaW.PrintLast Go.Proofs.YtibhjlmffgabgaaW.PrintMore
open Go.Proofs.Ytibhjlmffgabgaa.MapInt
set_option linter.unusedVariables false
set_option linter.unusedSimpArgs false
structure Kept (bx : Option (Nat × Array Value)) (W w : World) (K : Nat → Prop) : Prop where
  low : ∀ k, k < W.heap.size → K k
  bx : ∀ b CS, bx = some (b, CS) → K b ∧ Blk w b 35 CS
structure RS (bx : Option (Nat × Array Value)) (W w : World) (ga g m : Nat) (shs : List S65) (T : List Thg) (mva : Int) (ls : List SH) (ts : List TH) (mv : Int) : Prop where
  ex : ∃ P Q K base shV thV, RN W w ga g m P Q K base shs T mva ls ts mv shV thV ∧ Kept bx W w K
section
variable {bx : Option (Nat × Array Value)} {W w w2 : World} {K K2 : Nat → Prop}
theorem Kept.below (h : Kept bx W w K) (hb : Below w.heap.size w w2) : Kept bx W w2 K := ⟨h.low, fun b CS e => ⟨(h.bx b CS e).1, (h.bx b CS e).2.below hb⟩⟩
theorem Kept.chg {Q : Nat → Prop} (h : Kept bx W w K) (hc : Chg Q w w2) (hq : ∀ k, K k → ¬ Q k) : Kept bx W w2 K :=
  ⟨h.low, fun b CS e => ⟨(h.bx b CS e).1, by have h1 := (h.bx b CS e).2; have h2 := hc.block b h1.lt (hq b (h.bx b CS e).1); unfold Blk at *; rw [h2]; exact h1⟩⟩
theorem Kept.more (h : Kept bx W w K) (hk : ∀ k, K k → K2 k) : Kept bx W w K2 := ⟨fun k hl => hk k (h.low k hl), fun b CS e => ⟨hk b (h.bx b CS e).1, (h.bx b CS e).2⟩⟩
theorem Kept.a {ga g m base : Nat} {P P' Q : Nat → Prop} {shs shs' : List S65} {T T' : List Thg} {mva mva' mv : Int} {ls : List SH} {ts : List TH} {shV thV : Value} (h : Kept bx W w K) (hn : RN W w ga g m P Q K base shs T mva ls ts mv shV thV) (hz : PZ w P ga m shs' T' mva' w2 P') : Kept bx W w2 K := h.chg hz.ch (fun k hk hp => hn.pk k hp hk)
theorem Kept.m {ga g m base : Nat} {P Q : Nat → Prop} {shs : List S65} {T : List Thg} {mva mv : Int} {ls : List SH} {ts : List TH} {shV thV : Value} (h : Kept bx W w K) (hn : RN W w ga g m P Q K base shs T mva ls ts mv shV thV) (hc : Chg Q w w2) : Kept bx W w2 K := h.chg hc (fun k hk hq => hn.rm.qk k hq hk)
end
section
variable {bx : Option (Nat × Array Value)} {W w w2 : World} {ga g m : Nat} {shs shs' : List S65} {T T' : List Thg} {mva mva' mv mv' : Int} {ls ls' : List SH} {ts ts' : List TH}
theorem RS.below (h : RS bx W w ga g m shs T mva ls ts mv) (hb : Below w.heap.size w w2) : RS bx W w2 ga g m shs T mva ls ts mv := by
  obtain ⟨P, Q, K, base, shV, thV, h1, h2⟩ := h.ex
  exact ⟨P, Q, K, base, shV, thV, h1.below hb, h2.below hb⟩
theorem RS.bel (h : RS bx W w ga g m shs T mva ls ts mv) : Below W.heap.size W w := by
  obtain ⟨P, Q, K, base, shV, thV, h1, h2⟩ := h.ex
  exact h1.bel
theorem rs_free (h : RS bx W w ga g m shs T mva ls ts mv) : Calls Try.prog 13 #[.pointer (some ⟨ga, 0, none⟩)] w fun e w' => e = .returned (.int .i64 (freeF m shs T)) ∧ RS bx W w' ga g m shs T mva ls ts mv := by
  obtain ⟨P, Q, K, base, shV, thV, h1, h2⟩ := h.ex
  exact (free_az h1.az).mono fun e w' ⟨he, hb⟩ => ⟨he, h.below hb⟩
theorem rs_moved (h : RS bx W w ga g m shs T mva ls ts mv) : Calls Try.prog 32 #[.pointer (some ⟨ga, 0, none⟩)] w fun e w' => e = .returned (.int .i64 mva) ∧ RS bx W w' ga g m shs T mva ls ts mv := by
  obtain ⟨P, Q, K, base, shV, thV, h1, h2⟩ := h.ex
  exact (moved_az h1.az).mono fun e w' ⟨he, hb⟩ => ⟨he, h.below hb⟩
theorem rs_get (h : RS bx W w ga g m shs T mva ls ts mv) (a i : Int) : Calls Try.prog 20 #[.pointer (some ⟨ga, 0, none⟩), .int .i64 a, .int .i64 i] w fun e w' => e = .returned (.int .i64 (getF shs T a i)) ∧ RS bx W w' ga g m shs T mva ls ts mv := by
  obtain ⟨P, Q, K, base, shV, thV, h1, h2⟩ := h.ex
  exact (get_az h1.az a i).mono fun e w' ⟨he, hb⟩ => ⟨he, h.below hb⟩
theorem rs_size (h : RS bx W w ga g m shs T mva ls ts mv) (s n : Int) : Calls Try.prog 25 #[.pointer (some ⟨ga, 0, none⟩), .int .i64 s, .int .i64 n] w fun e w' => e = .returned (.int .i64 (sizeF shs s n)) ∧ RS bx W w' ga g m shs T mva ls ts mv := by
  obtain ⟨P, Q, K, base, shV, thV, h1, h2⟩ := h.ex
  exact (size_az h1.az s n).mono fun e w' ⟨he, hb⟩ => ⟨he, h.below hb⟩
theorem rs_make (h : RS bx W w ga g m shs T mva ls ts mv) (s n : Int) : Calls Try.prog 12 #[.pointer (some ⟨ga, 0, none⟩), .int .i64 s, .int .i64 n] w fun e w' => e = .returned (.int .i64 (makeF m shs T s n).2) ∧ RS bx W w' ga g m shs (makeF m shs T s n).1 mva ls ts mv := by
  obtain ⟨P, Q, K, base, shV, thV, h1, h2⟩ := h.ex
  exact (make_az h1.az s n).mono fun e w' ⟨he, hz⟩ => ⟨he, ⟨P, Q, K, base, shV, thV, h1.a hz, h2.a h1 hz⟩⟩
theorem rs_set (h : RS bx W w ga g m shs T mva ls ts mv) (a i x : Int) (hx : inR x) : Calls Try.prog 16 #[.pointer (some ⟨ga, 0, none⟩), .int .i64 a, .int .i64 i, .int .i64 x] w fun e w' => e = .returned (.tuple #[]) ∧ RS bx W w' ga g m shs (setT shs T 1 a i x) mva ls ts mv := by
  obtain ⟨P, Q, K, base, shV, thV, h1, h2⟩ := h.ex
  exact (set_az h1.az a i x hx).mono fun e w' ⟨he, hz⟩ => ⟨he, ⟨P, Q, K, base, shV, thV, h1.a hz, h2.a h1 hz⟩⟩
theorem rs_array (h : RS bx W w ga g m shs T mva ls ts mv) (hl : shs.length ≤ 100000) (k : Int) : Calls Try.prog 11 #[.pointer (some ⟨ga, 0, none⟩), .int .i64 k] w fun e w' => e = .returned (.int .i64 (shs.length : Int)) ∧ RS bx W w' ga g m (shs ++ [⟨[], true, k == 3⟩]) T mva ls ts mv := by
  obtain ⟨P, Q, K, base, shV, thV, h1, h2⟩ := h.ex
  exact (array_az h1.az hl k).mono fun e w' ⟨he, P', hz⟩ => ⟨he, ⟨P', Q, K, base, shV, thV, h1.a hz, h2.a h1 hz⟩⟩
theorem rs_object (h : RS bx W w ga g m shs T mva ls ts mv) (hl : shs.length ≤ 100000) {A : Option Addr} {c : Nat} {ks : List Int} {ok : Nat → Prop} (hr : Kd.F (Kd.int .i64) W ok A ks.length ks) (hok : ∀ k, ok k → k < W.heap.size) (hc : ks.length ≤ c) (hk : ks.length ≤ 1000) : Calls Try.prog 15 #[.pointer (some ⟨ga, 0, none⟩), .slice A ks.length c] w fun e w' => e = .returned (.int .i64 (shs.length : Int)) ∧ RS bx W w' ga g m (shs ++ [⟨ks.map (· == 3), false, false⟩]) T mva ls ts mv := by
  obtain ⟨P, Q, K, base, shV, thV, h1, h2⟩ := h.ex
  exact (object_az h1.az hl (Kd.F_now (Kd.F_step hr (fun k ho hlk => h1.bel.block k hlk))) hc hk).mono fun e w' ⟨he, P', hz⟩ => ⟨he, ⟨P', Q, K, base, shV, thV, h1.a hz, h2.a h1 hz⟩⟩
theorem RS.bxb {b : Nat} {CS : Array Value} (h : RS (some (b, CS)) W w ga g m shs T mva ls ts mv) : Blk w b 35 CS := by
  obtain ⟨P, Q, K, base, shV, thV, h1, h2⟩ := h.ex
  exact (h2.bx b CS rfl).2
theorem RS.unbox (h : RS bx W w ga g m shs T mva ls ts mv) : RS none W w ga g m shs T mva ls ts mv := by
  obtain ⟨P, Q, K, base, shV, thV, h1, h2⟩ := h.ex
  exact ⟨P, Q, K, base, shV, thV, h1, h2.low, fun b CS e => by cases e⟩
theorem RS.box (h : RS none W w ga g m shs T mva ls ts mv) (CS : Array Value) : RS (some (w.heap.size, CS)) W (w.alloc (.cells CS 35)) ga g m shs T mva ls ts mv := by
  obtain ⟨P, Q, K, base, shV, thV, h1, h2⟩ := h.ex
  have h3 : RN W (w.alloc (.cells CS 35)) ga g m P Q K base shs T mva ls ts mv shV thV := h1.below (below_alloc (Below.refl _ _) _)
  have h4 := (Blk.made w 35 CS).lt
  refine ⟨P, Q, fun j => K j ∨ j = w.heap.size, base, shV, thV, h3.moreK (fun j hj => .inl hj) (fun j hj => hj.elim (h3.rm.kl j) (fun e => by omega)) (fun j hj => hj.elim (fun hk => ⟨fun hq' => h1.rm.qk j hq' hk, fun hp' => h1.pk j hp' hk⟩) (fun e => by subst e; exact ⟨fun hq => Nat.lt_irrefl _ (h1.rm.lt _ hq), fun hp => Nat.lt_irrefl _ (h1.az.lt _ hp)⟩)), fun k hk => .inl (h2.low k hk), fun b CS' e => ?_⟩
  injection e with e; injection e with e1 e2; subst e1; subst e2
  exact ⟨.inr rfl, Blk.made w 35 CS⟩
theorem rs_rfree (h : RS bx W w ga g m shs T mva ls ts mv) : Calls Try.prog 31 #[.pointer (some ⟨g, 0, none⟩)] w fun e w' => e = .returned (.int .i64 (freeF m (cvt ls) (ts.map (·.t)))) ∧ RS bx W w' ga g m shs T mva ls ts mv := by
  obtain ⟨P, Q, K, base, shV, thV, h1, h2⟩ := h.ex
  exact (rfree_calls h1.rm h1.rf).mono fun e w' ⟨he, hb⟩ => ⟨he, h.below hb⟩
theorem rs_rget (h : RS bx W w ga g m shs T mva ls ts mv) (a i : Int) : Calls Try.prog 33 #[.pointer (some ⟨g, 0, none⟩), .int .i64 a, .int .i64 i] w fun e w' => e = .returned (.int .i64 (getF (cvt ls) (ts.map (·.t)) a i)) ∧ RS bx W w' ga g m shs T mva ls ts mv := by
  obtain ⟨P, Q, K, base, shV, thV, h1, h2⟩ := h.ex
  exact (rget_calls h1.rm h1.rf a i).mono fun e w' ⟨he, hb⟩ => ⟨he, h.below hb⟩
theorem rs_rsize (h : RS bx W w ga g m shs T mva ls ts mv) (s n : Int) : Calls Try.prog 26 #[.pointer (some ⟨g, 0, none⟩), .int .i64 s, .int .i64 n] w fun e w' => e = .returned (.int .i64 (sizeF (cvt ls) s n)) ∧ RS bx W w' ga g m shs T mva ls ts mv := by
  obtain ⟨P, Q, K, base, shV, thV, h1, h2⟩ := h.ex
  exact (rsize_calls h1.rm h1.rf s n).mono fun e w' ⟨he, hb⟩ => ⟨he, h.below hb⟩
theorem rs_rmake (h : RS bx W w ga g m shs T mva ls ts mv) (s n : Int) : Calls Try.prog 27 #[.pointer (some ⟨g, 0, none⟩), .int .i64 s, .int .i64 n] w fun e w' => e = .returned (.int .i64 (makeF m (cvt ls) (ts.map (·.t)) s n).2) ∧ ∃ ts', ts'.map (·.t) = (makeF m (cvt ls) (ts.map (·.t)) s n).1 ∧ RS bx W w' ga g m shs T mva ls ts' mv := by
  obtain ⟨P, Q, K, base, shV, thV, h1, h2⟩ := h.ex
  exact (rmake_calls h1.rm h1.rf h1.hb s n).mono fun e w' ⟨he, ts', thV', ht, hr, hf, hc⟩ => ⟨he, ts', ht, ⟨P, _, K, base, shV, thV', h1.mm hr hf hc, h2.m h1 hc⟩⟩
theorem rs_rset (h : RS bx W w ga g m shs T mva ls ts mv) (a i x : Int) (hx : inR x) : Calls Try.prog 28 #[.pointer (some ⟨g, 0, none⟩), .int .i64 a, .int .i64 i, .int .i64 x] w fun e w' => e = .returned (.tuple #[]) ∧ ∃ ts', ts'.map (·.t) = setT (cvt ls) (ts.map (·.t)) 1 a i x ∧ RS bx W w' ga g m shs T mva ls ts' mv := by
  obtain ⟨P, Q, K, base, shV, thV, h1, h2⟩ := h.ex
  exact (rset_calls h1.rm h1.rf a i x hx).mono fun e w' ⟨he, ts', ht, hr, hf, hc⟩ => ⟨he, ts', ht, ⟨P, Q, K, base, shV, thV, h1.mk2 hr hf hc, h2.m h1 hc⟩⟩
theorem rs_tell (h : RS bx W w ga g m shs T mva ls ts mv) (h3 : ls.length < 100000) {A : Option Addr} {c : Nat} {ks : List Int} (hr : Kd.F (Kd.int .i64) W (fun k => k < W.heap.size) A ks.length ks) (hc : ks.length ≤ c) (hk : ks.length ≤ 1000) :
    Calls Try.prog 24 #[.pointer (some ⟨g, 0, none⟩), .agg #[.slice A ks.length c, .bool false]] w fun e w' => e = .returned (.int .i64 (ls.length : Int)) ∧ RS bx W w' ga g m shs T mva (ls ++ [⟨⟨ks, false⟩, A, c⟩]) ts mv := by
  obtain ⟨P, Q, K, base, shV, thV, h1, h2⟩ := h.ex
  have hF : Kd.F (Kd.int .i64) w K A ks.length ks := Kd.F_mono (Kd.F_step hr (fun k ho hlk => h1.bel.block k hlk)) h2.low
  exact (rtell_calls (l := ⟨⟨ks, false⟩, A, c⟩) h1.rm h1.rf h1.hb h3 hk (fun e => by cases e) ⟨hF, hc⟩).mono fun e w' ⟨he, ⟨v', hr'⟩, hf, hcg⟩ => ⟨he, ⟨P, _, K, base, v', thV, h1.mm hr' hf hcg, h2.m h1 hcg⟩⟩
structure RSX (bx : Option (Nat × Array Value)) (W w : World) (ga g m : Nat) (shs : List S65) (T : List Thg) (mva : Int) (ls : List SH) (ts : List TH) (mv : Int) (B : Nat) (v : Value) (l : List Int) : Prop where
  ex : ∃ P Q K base shV thV, RN W w ga g m P Q K base shs T mva ls ts mv shV thV ∧ Kept bx W w K ∧ ∀ k, Q k → k < B
  row : w.ownsRow B 3 1 v l.length (nums .i64 l)
theorem RSX.rs {B : Nat} {v : Value} {l : List Int} (h : RSX bx W w ga g m shs T mva ls ts mv B v l) : RS bx W w ga g m shs T mva ls ts mv := by
  obtain ⟨P, Q, K, base, shV, thV, h1, h2, _⟩ := h.ex
  exact ⟨P, Q, K, base, shV, thV, h1, h2⟩
theorem RSX.below {B : Nat} {v : Value} {l : List Int} (h : RSX bx W w ga g m shs T mva ls ts mv B v l) (hb : Below w.heap.size w w2) : RSX bx W w2 ga g m shs T mva ls ts mv B v l := by
  obtain ⟨P, Q, K, base, shV, thV, h1, h2, h3⟩ := h.ex
  exact ⟨⟨P, Q, K, base, shV, thV, h1.below hb, h2.below hb, h3⟩, own_move h.row (fun k hk => hb.block k (own_row_lt h.row k hk).1)⟩
theorem rs_clear (h : RS bx W w ga g m shs T mva ls ts mv) (hmv : 0 ≤ mva ∧ mva ≤ 1000000000) {A : Option Addr} {c : Nat} {roots : List Int} (hr : Kd.F (Kd.int .i64) W (fun k => k < W.heap.size) A roots.length roots) (hc : roots.length ≤ c) (hin : ∀ r ∈ roots, inR r) (hrl : roots.length ≤ 1000000) :
    Calls Try.prog 14 #[.pointer (some ⟨ga, 0, none⟩), .slice A roots.length c] w fun e w' => ∃ v, e = .returned v ∧ RSX bx W w' ga g m shs (clrT shs (rchB shs T roots) T) (mva + 1) ls ts mv w.heap.size v (roots.map (ref1 (newF shs (rchB shs T roots) T))) := by
  obtain ⟨P, Q, K, base, shV, thV, h1, h2⟩ := h.ex
  have hF : Kd.F (Kd.int .i64) w (fun k => k < W.heap.size) A roots.length roots := Kd.F_step hr (fun k ho hlk => h1.bel.block k hlk)
  exact (clear_a (a := ⟨shs, T, mva⟩) h1.az hmv hF (fun k ho _ hp => by have := h1.pW k hp; omega) hc hin hrl).mono fun e w' ⟨v, he, hrow, hz⟩ => ⟨v, he, ⟨P, Q, K, base, shV, thV, h1.a hz, h2.a h1 hz, h1.rm.lt⟩, by rw [List.length_map]; exact hrow⟩
theorem rs_rclear {B : Nat} {v : Value} {l : List Int} (h : RSX bx W w ga g m shs T mva ls ts mv B v l) (hmv : 0 ≤ mv ∧ mv ≤ 1000000000) {A : Option Addr} {c : Nat} {roots : List Int} (hr : Kd.F (Kd.int .i64) W (fun k => k < W.heap.size) A roots.length roots) (hrl : roots.length ≤ 1000000) :
    Calls Try.prog 29 #[.pointer (some ⟨g, 0, none⟩), .slice A roots.length c] w fun e w' => ∃ v2 ts', e = .returned v2 ∧ ts'.map (·.t) = clrT (cvt ls) (rchB (cvt ls) (ts.map (·.t)) roots) (ts.map (·.t)) ∧ RS bx W w' ga g m shs T mva ls ts' (mv + 1) ∧ w'.ownsRow B 3 1 v l.length (nums .i64 l) ∧ w'.ownsRow w.heap.size 3 1 v2 roots.length (nums .i64 (roots.map (ref1 (newF (cvt ls) (rchB (cvt ls) (ts.map (·.t)) roots) (ts.map (·.t)))))) := by
  obtain ⟨P, Q, K, base, shV, thV, h1, h2, h3⟩ := h.ex
  have hF : Kd.F (Kd.int .i64) w (fun k => k < W.heap.size) A roots.length roots := Kd.F_step hr (fun k ho hlk => h1.bel.block k hlk)
  exact (rclear_calls h1.rm h1.rf h1.hb hmv (fun w' hc' => Kd.F_now (Kd.F_step hF (fun k ho hl => hc'.block k hl (fun hq => by have := h1.qW k hq; omega)))) hrl).mono fun e w' ⟨v2, he, hrow, ⟨ts', thV', ht, hrm, hrf⟩, hc⟩ =>
    ⟨v2, ts', he, ht, ⟨P, _, K, base, shV, thV', h1.mm hrm hrf hc, h2.m h1 hc⟩, own_move h.row (fun k hk => hc.block k (own_row_lt h.row k hk).1 (fun hq => by have := h3 k hq; have := (own_row_lt h.row k hk).2; omega)), hrow⟩
theorem rs_reached (h : RS bx W w ga g m shs T mva ls ts mv) {A : Option Addr} {c : Nat} {roots : List Int} (hr : Kd.F (Kd.int .i64) W (fun k => k < W.heap.size) A roots.length roots) (hc : roots.length ≤ c) (hin : ∀ r ∈ roots, inR r) :
    Calls Try.prog 17 #[.pointer (some ⟨ga, 0, none⟩), .slice A roots.length c] w fun e w' => e = .returned (.int .i64 (sumT shs (keepT shs (rchB shs T roots) T 1) : Nat)) ∧ RS bx W w' ga g m shs T mva ls ts mv := by
  obtain ⟨P, Q, K, base, shV, thV, h1, h2⟩ := h.ex
  have hF : Kd.F (Kd.int .i64) w (fun k => k < W.heap.size) A roots.length roots := Kd.F_step hr (fun k ho hlk => h1.bel.block k hlk)
  exact (reached_a (a := ⟨shs, T, mva⟩) h1.az (Kd.F_now hF) hc hin).mono fun e w' ⟨he, hb⟩ => ⟨he, h.below hb⟩
theorem rs_rreach (h : RS bx W w ga g m shs T mva ls ts mv) {A : Option Addr} {c : Nat} {roots : List Int} (hr : Kd.F (Kd.int .i64) W (fun k => k < W.heap.size) A roots.length roots) (hrl : roots.length ≤ 1000000) :
    Calls Try.prog 30 #[.pointer (some ⟨g, 0, none⟩), .slice A roots.length c] w fun e w' => e = .returned (.int .i64 (sumT (cvt ls) (keepT (cvt ls) (rchB (cvt ls) (ts.map (·.t)) roots) (ts.map (·.t)) 1) : Nat)) ∧ RS bx W w' ga g m shs T mva ls ts mv := by
  obtain ⟨P, Q, K, base, shV, thV, h1, h2⟩ := h.ex
  have hF : Kd.F (Kd.int .i64) w (fun k => k < W.heap.size) A roots.length roots := Kd.F_step hr (fun k ho hlk => h1.bel.block k hlk)
  exact (rreachN_calls h1.rm h1.rf (Kd.F_now hF) hrl).mono fun e w' ⟨he, hb⟩ => ⟨he, h.below hb⟩
theorem rs_alike (h : RS bx W w ga g m (cvt ls) (ts.map (·.t)) mva ls ts mv) : Calls Try.prog 34 #[.pointer (some ⟨ga, 0, none⟩), .pointer (some ⟨g, 0, none⟩)] w fun e w' => e = .returned (.bool true) ∧ Below W.heap.size W w' := by
  obtain ⟨P, Q, K, base, shV, thV, h1, h2⟩ := h.ex
  exact (alike_calls h1.az h1.rm h1.rf).mono fun e w' ⟨he, hb⟩ => ⟨he, below_step h1.bel hb⟩
theorem RS.cells (h : RS bx W w ga g m shs T mva ls ts mv) : (∃ A c, w.cell? ⟨g, 2, none⟩ = some (.slice A ts.length c)) ∧ w.cell? ⟨g, 3, none⟩ = some (.int .i64 mv) := by
  obtain ⟨P, Q, K, base, shV, thV, h1, h2⟩ := h.ex
  obtain ⟨A, c, rfl⟩ := h1.rm.thL
  exact ⟨⟨A, c, h1.rm.c2⟩, h1.rm.c3⟩
structure RSL (bx : Option (Nat × Array Value)) (W w : World) (ga g m : Nat) (shs : List S65) (T : List Thg) (mva : Int) (ls : List SH) (ts : List TH) (mv : Int) (b : Nat) (k : Int) : Prop where
  ex : ∃ P Q K base shV thV, RN W w ga g m P Q K base shs T mva ls ts mv shV thV ∧ Kept bx W w K ∧ ¬ P b ∧ ¬ Q b
  blk : Blk w b 3 #[.int .i64 k]
theorem RSL.rs {b : Nat} {k : Int} (h : RSL bx W w ga g m shs T mva ls ts mv b k) : RS bx W w ga g m shs T mva ls ts mv := by
  obtain ⟨P, Q, K, base, shV, thV, h1, h2, _⟩ := h.ex
  exact ⟨P, Q, K, base, shV, thV, h1, h2⟩
theorem RS.lit (h : RS bx W w ga g m shs T mva ls ts mv) (k : Int) : RSL bx W (w.alloc (.cells #[.int .i64 k] 3)) ga g m shs T mva ls ts mv w.heap.size k := by
  obtain ⟨P, Q, K, base, shV, thV, h1, h2⟩ := h.ex
  exact ⟨⟨P, Q, K, base, shV, thV, h1.below (below_alloc (Below.refl _ _) _), h2.below (below_alloc (Below.refl _ _) _), fun hp => Nat.lt_irrefl _ (h1.az.lt _ hp), fun hq => Nat.lt_irrefl _ (h1.rm.lt _ hq)⟩, Blk.made w 3 _⟩
theorem RSL.below {b : Nat} {k : Int} (h : RSL bx W w ga g m shs T mva ls ts mv b k) (hb : Below w.heap.size w w2) : RSL bx W w2 ga g m shs T mva ls ts mv b k := by
  obtain ⟨P, Q, K, base, shV, thV, h1, h2, h3⟩ := h.ex
  exact ⟨⟨P, Q, K, base, shV, thV, h1.below hb, h2.below hb, h3⟩, h.blk.below hb⟩
theorem rs_arrayL {b : Nat} {k : Int} (h : RSL bx W w ga g m shs T mva ls ts mv b k) (hl : shs.length ≤ 100000) (x : Int) : Calls Try.prog 11 #[.pointer (some ⟨ga, 0, none⟩), .int .i64 x] w fun e w' => e = .returned (.int .i64 (shs.length : Int)) ∧ RSL bx W w' ga g m (shs ++ [⟨[], true, x == 3⟩]) T mva ls ts mv b k := by
  obtain ⟨P, Q, K, base, shV, thV, h1, h2, h3, h4⟩ := h.ex
  exact (array_az h1.az hl x).mono fun e w' ⟨he, P', hz⟩ => ⟨he, ⟨P', Q, K, base, shV, thV, h1.a hz, h2.a h1 hz, fun hp => (hz.nx b hp).elim h3 (fun hb => by have := h.blk.lt; omega), h4⟩, by unfold Blk; rw [hz.ch.block b h.blk.lt h3]; exact h.blk⟩
theorem rs_tellA {b : Nat} {k : Int} (h : RSL bx W w ga g m shs T mva ls ts mv b k) (h3 : ls.length < 100000) :
    Calls Try.prog 24 #[.pointer (some ⟨g, 0, none⟩), .agg #[.slice (some ⟨b, 0, none⟩) 1 1, .bool true]] w fun e w' => e = .returned (.int .i64 (ls.length : Int)) ∧ RS bx W w' ga g m shs T mva (ls ++ [⟨⟨[k], true⟩, some ⟨b, 0, none⟩, 1⟩]) ts mv := by
  obtain ⟨P, Q, K, base, shV, thV, h1, h2, hp, hq⟩ := h.ex
  have hlt := h.blk.lt
  have hown : w.ownsRow b 3 1 (.slice (some ⟨b, 0, none⟩) 1 1) [k].length (nums .i64 [k]) := ⟨rfl, .inr ⟨b, 1, #[.int .i64 k], rfl, Nat.le_refl _, h.blk, Nat.le_refl _, by decide, rfl, rfl⟩⟩
  have hF : Kd.F (Kd.int .i64) w (fun j => K j ∨ j = b) (some ⟨b, 0, none⟩) [k].length [k] := Kd.R_F (Kd.R_of_own (enc := Value.int .i64) (h1 := fun _ => rfl) (ok := fun j => K j ∨ j = b) hown (fun j hj => by injection hj with hj; exact .inr hj.symm))
  have h1' := h1.moreK (K2 := fun j => K j ∨ j = b) (fun j hj => .inl hj) (fun j hj => hj.elim (h1.rm.kl j) (fun e => by omega)) (fun j hj => hj.elim (fun hk => ⟨fun hq' => h1.rm.qk j hq' hk, fun hp' => h1.pk j hp' hk⟩) (fun e => by subst e; exact ⟨hq, hp⟩))
  exact (rtell_calls (l := ⟨⟨[k], true⟩, some ⟨b, 0, none⟩, 1⟩) h1'.rm h1'.rf h1'.hb h3 (by simp) (fun _ => by simp) ⟨hF, by simp⟩).mono fun e w' ⟨he, ⟨v', hr'⟩, hf, hcg⟩ => ⟨he, ⟨P, _, _, base, v', thV, h1'.mm hr' hf hcg, (h2.more (fun j hj => .inl hj)).m h1' hcg⟩⟩
end
end Go.Proofs.Ytibhjlmffgabgaa.PAll
