import Derived.Test.YtedmhopginmjaaaZMadeCalls
import Derived.Test.YtedmhopginmjaaaZRowStore
namespace Go.Proofs.Ytedmhopginmjaaa.PAll
open Go.RowKit Go.Proofs.YtedmhopginmjaaaW.PrintWords Go.Proofs.YtedmhopginmjaaaW.PrintLast Go.Proofs.YtedmhopginmjaaaW.PrintMore
open Go.Proofs.Ytedmhopginmjaaa.MapInt
set_option linter.unusedVariables false
set_option linter.unusedSimpArgs false
theorem info62b : (Try.prog.info? 62).map (fun i => (i.zero, i.size, i.bytes)) = some (some (.agg (rawC (rawZ 0))), 6, 56) := by kernel_rfl
theorem infoCb : (Try.prog.info? 44).map (fun i => (i.zero, i.size, i.bytes)) = some (some (.agg (conC (conZ 0))), 5, 64) := by kernel_rfl
structure RDS (W0 w wx : World) (g : Nat) (l : List Int) (bad : Bool) (v7 : Value) (xs : List SR) : Prop where
  rs : RS W0 wx g l bad
  gr : w.grownBy wx (some g)
  row : Kd.R k62 62 wx w.heap.size (fun _ => True) v7 xs
  gl : g < w.heap.size
section
variable {W0 w wx w2 : World} {g : Nat} {l l2 : List Int} {bad b2 : Bool} {v7 : Value} {xs : List SR}
theorem RDS.called (h : RDS W0 w wx g l bad v7 xs) (hr : RS W0 w2 g l2 b2) (hg : wx.grownBy w2 (some g)) : RDS W0 w w2 g l2 b2 v7 xs :=
  ⟨hr, h.gr.trans hg, Kd.R_mono (Kd.R_grown (Kd.R_bound h.row) hg (fun k hk e => by injection e with e; have := hk.2.1; have := h.gl; omega)) (fun _ _ => trivial), h.gl⟩
theorem RDS.below (h : RDS W0 w wx g l bad v7 xs) (hb : Below wx.heap.size wx w2) : RDS W0 w w2 g l bad v7 xs :=
  ⟨h.rs.below hb, h.gr.trans (gr_below hb), Kd.R_below h.row hb, h.gl⟩
theorem RDS.grown0 (h : RDS W0 w wx g l bad v7 xs) (hg : wx.grownBy w2 none) : RDS W0 w w2 g l bad v7 xs :=
  h.below ⟨hg.os, hg.tape, hg.output, hg.size, fun k hk => hg.block k hk (fun e => by cases e)⟩
theorem RDS.putC {gc n cap2 i : Nat} {ys : List S44} (h : RDS W0 w wx g l bad v7 xs) (hc : Kd.R k44 44 wx w.heap.size (fun _ => True) (.slice (some ⟨gc, 0, none⟩) n cap2) ys) (hi : i < n) (hg : wx.grownBy w2 (some gc)) : RDS W0 w w2 g l bad v7 xs := by
  have hn : n = ys.length := (Kd.R_reads' hc).1
  obtain ⟨g2, cap, e, h2, _, cells, h3⟩ := Kd.R_form hc (by omega)
  injection e with e _ _
  injection e with e
  injection e with e _ _
  subst e
  refine ⟨h.rs.kept hg (fun e => by injection e with e; have := h.gl; omega) (fun k hk => by cases hk; exact Nat.le_trans (Nat.le_trans h.rs.lg (Nat.le_of_lt h.gl)) h2), gr_new h.gr hg h2, Kd.R_mono (Kd.R_grown (Kd.R_bound h.row) hg (fun k hk e => ?_)) (fun _ _ => trivial), h.gl⟩
  obtain ⟨_, _, _, q, hq, cells2, hc2⟩ := hk
  injection e with e; subst e
  have hq2 : q ∈ [62] := hq
  have hq3 : q = 62 := by simpa using hq2
  subst hq3
  rw [h3] at hc2
  cases hc2
theorem RDS.bl (h : RDS W0 w wx g l bad v7 xs) : Below W0.heap.size W0 wx := h.rs.bel
theorem RDS.size (h : RDS W0 w wx g l bad v7 xs) : w.heap.size ≤ wx.heap.size := h.gr.size
end
theorem k62_len (w : World) (base : Nat) (ok : Nat → Prop) (x : SR) : k62.M w base ok x (rawC x).toList := k62_mkM w base ok x
set_option maxHeartbeats 16000000 in
set_option maxRecDepth 100000 in
theorem read_calls {vv : S44 → Int} {W0 w : World} {g : Nat} {l : List Int} {bad : Bool} (h : RS W0 w g l bad) (hv : ∀ c : S44, c.f2.size ≤ 65535 → c.f3.size ≤ 65535 → c.f4.size ≤ 65535 → ValOk vv c) :
    Calls Try.prog 15 #[.pointer (some ⟨g, 0, none⟩)] w fun e w' => ∃ v, e = .returned (.tuple #[v, .int .i64 (readF vv l bad).1]) ∧ Kd.R k44 44 w' w.heap.size (fun _ => True) v (readF vv l bad).2.1 ∧ RS W0 w' g (readF vv l bad).2.2.1 (readF vv l bad).2.2.2 ∧ w.grownBy w' (some g) := by
  have hgl : g < w.heap.size := by obtain ⟨A, c, hB, _, _⟩ := h.box; exact hB.lt
  have HR := Aside0.mk h
  have HVV := Aside0.mk hv
  rcases h1 : numF l bad 2 with ⟨N, L1, B1⟩
  have H1 := Aside0.mk h1
  have hN := numF_in 2 h.u8 h1
  have wrN : IntKind.i64.wrap N = N := IntWalk.i64_in _ (by omega)
  have wxN : wrap64 N = N := wrap64_in _ (by omega)
  obtain ⟨n, rfl⟩ : ∃ n : Nat, N = n := ⟨N.toNat, by omega⟩
  have HRF : Aside0 (readF vv l bad = if B1 = true then (11, [], L1, B1) else if (n : Int) < 1 ∨ 1000 < (n : Int) then (12, [], L1, B1) else
    if (rawsF (n - 1) L1 B1).1 ≠ 0 then ((rawsF (n - 1) L1 B1).1, [], (rawsF (n - 1) L1 B1).2.2) else
    if (consF vv (rawZ 0 :: (rawsF (n - 1) L1 B1).2.1) (rawsF (n - 1) L1 B1).2.1).1 ≠ 0 then ((consF vv (rawZ 0 :: (rawsF (n - 1) L1 B1).2.1) (rawsF (n - 1) L1 B1).2.1).1, [], (rawsF (n - 1) L1 B1).2.2) else
    (0, conZ 0 :: (consF vv (rawZ 0 :: (rawsF (n - 1) L1 B1).2.1) (rawsF (n - 1) L1 B1).2.1).2, (rawsF (n - 1) L1 B1).2.2)) := ⟨by unfold readF; rw [h1]; simp⟩
  generalize readF vv l bad = res at *
  clear h hv h1
  by_cases hb1 : B1 = true
  · rw [if_pos hb1] at HRF
    subst hb1
    obtain ⟨r1, r2, r3, r4⟩ := res
    have hre := HRF.out
    simp only [Prod.mk.injEq] at hre
    obtain ⟨rfl, rfl, rfl, rfl⟩ := hre
    clear HRF
    go_enter Try.func15, Try.ntmps15
    go_wp2_with (first | (go_at_call 10; (with_reducible refine (num_at 2 HR.out H1.out).mono ?_); rintro e wb ⟨rfl, hr, hg⟩; have n_ := Aside0.mk hr; clear HR; have HR := n_; clear n_; have HG := Aside0.mk hg; clear hr hg) | (go_at_call 14; (with_reducible refine (left_calls W0 _ g _ _ HR.out).mono ?_); rintro e wc ⟨rfl, hbl⟩; have n_ := Aside0.mk (HR.out.below hbl); clear HR; have HR := n_; clear n_; have n_ := Aside0.mk (HG.out.trans (gr_below (row := some g) hbl)); clear HG; have HG := n_; clear n_ hbl))
    go_ret2
    exact ⟨_, rfl, Kd.R_nil _ _ _ _ _, HR.out, HG.out⟩
  rw [if_neg hb1] at HRF
  obtain rfl : B1 = false := by simpa using hb1
  clear hb1
  by_cases hnn : (n : Int) < 1 ∨ 1000 < (n : Int)
  · rw [if_pos hnn] at HRF
    obtain ⟨r1, r2, r3, r4⟩ := res
    have hre := HRF.out
    simp only [Prod.mk.injEq] at hre
    obtain ⟨rfl, rfl, rfl, rfl⟩ := hre
    clear HRF
    by_cases hn1 : (n : Int) < 1
    · clear hnn
      go_enter Try.func15, Try.ntmps15
      go_wp2_with (first | (go_at_call 10; (with_reducible refine (num_at 2 HR.out H1.out).mono ?_); rintro e wb ⟨rfl, hr, hg⟩; have n_ := Aside0.mk hr; clear HR; have HR := n_; clear n_; have HG := Aside0.mk hg; clear hr hg) | (go_at_call 14; (with_reducible refine (left_calls W0 _ g _ _ HR.out).mono ?_); rintro e wc ⟨rfl, hbl⟩; have n_ := Aside0.mk (HR.out.below hbl); clear HR; have HR := n_; clear n_; have n_ := Aside0.mk (HG.out.trans (gr_below (row := some g) hbl)); clear HG; have HG := n_; clear n_ hbl))
      go_ret2
      exact ⟨_, rfl, Kd.R_nil _ _ _ _ _, HR.out, HG.out⟩
    · have hn2 : 1000 < (n : Int) := by omega
      clear hnn
      go_enter Try.func15, Try.ntmps15
      go_wp2_with (first | (go_at_call 10; (with_reducible refine (num_at 2 HR.out H1.out).mono ?_); rintro e wb ⟨rfl, hr, hg⟩; have n_ := Aside0.mk hr; clear HR; have HR := n_; clear n_; have HG := Aside0.mk hg; clear hr hg) | (go_at_call 14; (with_reducible refine (left_calls W0 _ g _ _ HR.out).mono ?_); rintro e wc ⟨rfl, hbl⟩; have n_ := Aside0.mk (HR.out.below hbl); clear HR; have HR := n_; clear n_; have n_ := Aside0.mk (HG.out.trans (gr_below (row := some g) hbl)); clear HG; have HG := n_; clear n_ hbl))
      go_ret2
      exact ⟨_, rfl, Kd.R_nil _ _ _ _ _, HR.out, HG.out⟩
  rw [if_neg hnn] at HRF
  have hn1 : 1 ≤ n := by omega
  have hn2 : n ≤ 1000 := by omega
  have hni : (1 : Int) ≤ (n : Int) := by omega
  have hni2 : (n : Int) ≤ 1000 := by omega
  clear hnn
  obtain ⟨tot, htot⟩ : ∃ t, t = rawsF (n - 1) L1 false := ⟨_, rfl⟩
  rw [← htot] at HRF
  have HTOT := Aside0.mk htot
  have HTL : Aside0 (tot.1 = 0 → tot.2.1.length = n - 1) := ⟨fun h => by rw [htot] at h ⊢; exact rawsF_len _ _ _ h⟩
  clear htot
  go_enter Try.func15, Try.ntmps15
  go_wp2_with (first | (go_at_call 10; (with_reducible refine (num_at 2 HR.out H1.out).mono ?_); rintro e wb ⟨rfl, hr, hg⟩; have n_ := Aside0.mk hr; clear HR; have HR := n_; clear n_; have HG := Aside0.mk hg; clear hr hg) | (go_at_call 14; (with_reducible refine (left_calls W0 _ g _ _ HR.out).mono ?_); rintro e wc ⟨rfl, hbl⟩; have n_ := Aside0.mk (HR.out.below hbl); clear HR; have HR := n_; clear n_; have n_ := Aside0.mk (HG.out.trans (gr_below (row := some g) hbl)); clear HG; have HG := n_; clear n_ hbl) | ((with_reducible refine gate_dst (N := 34) rfl ?_); refine Kd.R_make k62 (w0 := wc) w.heap.size 62 rfl (N := 34) rfl 59 (.tmp 33) (.tmp 33) rfl (n : Int) rfl rfl Try.underlying59 (.agg (rawC (rawZ 0))) 56 info62b rfl (by decide) (by decide) (rawZ 0) (ok := fun _ => True) (okp := fun _ => True) (k62_len _ _ _ _) (fun _ h => h) trivial (by omega) (by omega) (Below.refl _ _) HG.out.size ?_; intro v7 wd h7 hb7 hg7 hat7; have HS : Aside0 (RDS W0 w wd g L1 false v7 (List.replicate n (rawZ 0))) := ⟨⟨HR.out.kept hg7 (fun e => by cases e) (fun k hk => by cases hk), HG.out.trans ⟨hg7.os, hg7.tape, hg7.output, hg7.size, fun k hk hne => hg7.block k hk (fun e => by cases e)⟩, h7, hgl⟩⟩; clear h7 hb7 hg7 hat7 HR HG))
  obtain ⟨gb, cap, hform, hcap⟩ : ∃ gb cap, v7 = .slice (some ⟨gb, 0, none⟩) n cap ∧ n ≤ cap ∧ w.heap.size ≤ gb := by
    obtain ⟨A7, c7, e7, h7l, _⟩ := Kd.R_reads HS.out.row
    obtain ⟨gb, cap, e, h2, _⟩ := Kd.R_form HS.out.row (by rw [List.length_replicate]; omega)
    rw [List.length_replicate] at e e7 h7l
    have e8 := e
    rw [e7] at e
    injection e with _ _ e; subst e
    exact ⟨gb, c7, e8, h7l, h2⟩
  subst hform
  have HCAP := Aside0.mk hcap.1
  have HGB := Aside0.mk hcap.2
  clear hcap
  go_loopw [8] (fun v8 wr => ∃ (i : Nat) (acc : List SR) (l : List Int) (b : Bool), 1 ≤ i ∧ i ≤ n ∧ v8 = .int .i64 i ∧ Aside0 (acc.length = i - 1 ∧ RDS W0 w wr g l b (.slice (some ⟨gb, 0, none⟩) n cap) (rawZ 0 :: acc ++ List.replicate (n - i) (rawZ 0)) ∧ tot = ((rawsF (n - i) l b).1, acc ++ (rawsF (n - i) l b).2.1, (rawsF (n - i) l b).2.2) ∧ b = false ∧ ∀ x ∈ acc, kindIn x ∧ x.text.size ≤ 65535)) (fun v8 _ => n - (intOf v8).toNat)
  case atStart =>
    refine ⟨1, [], L1, false, Nat.le_refl _, hn1, rfl, ⟨rfl, ?_, ?_, rfl, fun x hx => by cases hx⟩⟩
    · have h2 : (rawZ 0 :: ([] : List SR) ++ List.replicate (n - 1) (rawZ 0)) = List.replicate n (rawZ 0) := by
        show rawZ 0 :: List.replicate (n - 1) (rawZ 0) = _
        rw [← List.replicate_succ, show n - 1 + 1 = n by omega]
      rw [h2]; exact HS.out
    · rw [HTOT.out, List.nil_append]
  case round =>
    clear HS
    obtain ⟨i, acc, l, b, hi1, hin, rfl, HI⟩ := hrel
    by_cases hlt : i < n
    · have hlt' : (i : Int) < (n : Int) := by omega
      have hi1' : (1 : Int) ≤ (i : Int) := by omega
      rcases ho : oneF l b with ⟨x, ok, l2, b2⟩
      have HO := Aside0.mk ho
      have HS := Aside0.mk HI.out.2.1
      have HRW : Aside0 (rawsF (n - i) l b = if b2 = true then (11, [], l2, b2) else if ok = false then (12, [], l2, b2) else ((rawsF (n - (i + 1)) l2 b2).1, x :: (rawsF (n - (i + 1)) l2 b2).2.1, (rawsF (n - (i + 1)) l2 b2).2.2)) := ⟨by
        rw [show n - i = (n - (i + 1)) + 1 by omega]
        conv => lhs; unfold rawsF
        rw [ho]⟩
      clear ho
      by_cases hb2 : b2 = true
      · subst hb2
        have hres : res = (11, [], l2, true) := by
          rw [HRF.out, HI.out.2.2.1, HRW.out]; simp
        subst hres
        clear HRF HRW
        go_wp2_with (first | (go_at_call 22; (with_reducible refine (one_calls HS.out.rs HO.out).mono ?_); rintro e we ⟨rfl, hr, hg⟩; have n_ := Aside0.mk (HS.out.called hr hg); clear HS hr hg; have HS := n_; clear n_) | ((with_reducible refine gate_dst (N := 9) rfl ?_); refine box_event ?hg (N := 9) ?hd (cs := #[.int .i64 0, .int .u64 0, .string ⟨#[]⟩, .int .i64 0, .int .i64 0, .int .i64 0]) (t := 62) ?hr ?_; (case hd => rfl); (case hg => rfl); (case hr => first | (go_simp; done) | (go_simp; rfl)); intro b9 hb9 wf hk9 hbl; have HK9 := Aside0.mk (show Blk wf b9 62 (rawC (rawZ 0)) from hk9); have HBL := Aside0.mk hbl; have HE := Aside0.mk (Nat.le_of_eq hb9.symm); clear hb9 hk9 hbl) | (refine blk_store rfl 62 (.tmp 9) (.tmp 43) rfl (cs' := rawC x) info62 rfl rfl (rawC_one _) HK9.out rfl ?_; intro wg hb4 hg4 hz4; have n_ := Aside0.mk hb4; clear HK9; have HK9 := n_; clear n_; have n_ := Aside0.mk (HS.out.below (HBL.out.grown hg4 HBL.out.size (fun k hk => by cases hk; exact HE.out))); clear HS; have HS := n_; clear n_; clear hb4 hg4 hz4 HBL HE) | (go_at_call 14; (with_reducible refine (left_calls W0 _ g _ _ HS.out.rs).mono ?_); rintro e wh ⟨rfl, hbl⟩; have n_ := Aside0.mk (HS.out.below hbl); clear HS; have HS := n_; clear n_; have n_ := Aside0.mk (HK9.out.below hbl); clear HK9; have HK9 := n_; clear n_ hbl))
        go_ret2
        exact ⟨_, rfl, Kd.R_nil _ _ _ _ _, HS.out.rs, HS.out.gr⟩
      · obtain rfl : b2 = false := by simpa using hb2
        clear hb2
        cases ok with
        | false =>
          have hres : res = (12, [], l2, false) := by
            rw [HRF.out, HI.out.2.2.1, HRW.out]; simp
          subst hres
          clear HRF HRW
          go_wp2_with (first | (go_at_call 22; (with_reducible refine (one_calls HS.out.rs HO.out).mono ?_); rintro e we ⟨rfl, hr, hg⟩; have n_ := Aside0.mk (HS.out.called hr hg); clear HS hr hg; have HS := n_; clear n_) | ((with_reducible refine gate_dst (N := 9) rfl ?_); refine box_event ?hg (N := 9) ?hd (cs := #[.int .i64 0, .int .u64 0, .string ⟨#[]⟩, .int .i64 0, .int .i64 0, .int .i64 0]) (t := 62) ?hr ?_; (case hd => rfl); (case hg => rfl); (case hr => first | (go_simp; done) | (go_simp; rfl)); intro b9 hb9 wf hk9 hbl; have HK9 := Aside0.mk (show Blk wf b9 62 (rawC (rawZ 0)) from hk9); have HBL := Aside0.mk hbl; have HE := Aside0.mk (Nat.le_of_eq hb9.symm); clear hb9 hk9 hbl) | (refine blk_store rfl 62 (.tmp 9) (.tmp 43) rfl (cs' := rawC x) info62 rfl rfl (rawC_one _) HK9.out rfl ?_; intro wg hb4 hg4 hz4; have n_ := Aside0.mk hb4; clear HK9; have HK9 := n_; clear n_; have n_ := Aside0.mk (HS.out.below (HBL.out.grown hg4 HBL.out.size (fun k hk => by cases hk; exact HE.out))); clear HS; have HS := n_; clear n_; clear hb4 hg4 hz4 HBL HE) | (go_at_call 14; (with_reducible refine (left_calls W0 _ g _ _ HS.out.rs).mono ?_); rintro e wh ⟨rfl, hbl⟩; have n_ := Aside0.mk (HS.out.below hbl); clear HS; have HS := n_; clear n_; have n_ := Aside0.mk (HK9.out.below hbl); clear HK9; have HK9 := n_; clear n_ hbl))
          go_ret2
          exact ⟨_, rfl, Kd.R_nil _ _ _ _ _, HS.out.rs, HS.out.gr⟩
        | true =>
          rw [if_neg (by decide), if_neg (by decide)] at HRW
          have HKX : Aside0 (kindIn x ∧ x.text.size ≤ 65535) := ⟨by
            have h1 := oneF_kind (l := l) (bad := b) (by rw [HO.out])
            have h2 := oneF_text l b HS.out.rs.u8
            rw [HO.out] at h1 h2
            exact ⟨h1, h2⟩⟩
          go_wp2_with (first | (go_at_call 22; (with_reducible refine (one_calls HS.out.rs HO.out).mono ?_); rintro e we ⟨rfl, hr, hg⟩; have n_ := Aside0.mk (HS.out.called hr hg); clear HS hr hg; have HS := n_; clear n_) | ((with_reducible refine gate_dst (N := 9) rfl ?_); refine box_event ?hg (N := 9) ?hd (cs := #[.int .i64 0, .int .u64 0, .string ⟨#[]⟩, .int .i64 0, .int .i64 0, .int .i64 0]) (t := 62) ?hr ?_; (case hd => rfl); (case hg => rfl); (case hr => first | (go_simp; done) | (go_simp; rfl)); intro b9 hb9 wf hk9 hbl; have HK9 := Aside0.mk (show Blk wf b9 62 (rawC (rawZ 0)) from hk9); have HBL := Aside0.mk hbl; have HE := Aside0.mk (Nat.le_of_eq hb9.symm); clear hb9 hk9 hbl) | (refine blk_store rfl 62 (.tmp 9) (.tmp 43) rfl (cs' := rawC x) info62 rfl rfl (rawC_one _) HK9.out rfl ?_; intro wg hb4 hg4 hz4; have n_ := Aside0.mk hb4; clear HK9; have HK9 := n_; clear n_; have n_ := Aside0.mk (HS.out.below (HBL.out.grown hg4 HBL.out.size (fun k hk => by cases hk; exact HE.out))); clear HS; have HS := n_; clear n_; clear hb4 hg4 hz4 HBL HE) | (go_at_call 14; (with_reducible refine (left_calls W0 _ g _ _ HS.out.rs).mono ?_); rintro e wh ⟨rfl, hbl⟩; have n_ := Aside0.mk (HS.out.below hbl); clear HS; have HS := n_; clear n_; have n_ := Aside0.mk (HK9.out.below hbl); clear HK9; have HK9 := n_; clear n_ hbl) | ((with_reducible refine gate_dst (N := 56) rfl ?_); refine blk_load (cs := rawC x) rfl 62 (.tmp 9) rfl Try.underlying62 rfl info62 rfl HK9.out ?_) | (refine store62 rfl rfl (.tmp 57) (.tmp 56) rfl (gb := gb) (o' := i * 6) i x (by first | rfl | (simp [Act.eval, Act.put, Addr.add]; done) | (go_simp; done)) rfl rfl HS.out.row hlt ?_; intro wi h62 hg62; have HS2 := Aside0.mk (show RDS W0 w wi g l2 false (.slice (some ⟨gb, 0, none⟩) n cap) _ from ⟨HS.out.rs.kept hg62 (fun e => by injection e with e; have := HGB.out; have := HS.out.gl; omega) (fun k hk => by cases hk; exact Nat.le_trans (Nat.le_trans HS.out.rs.lg (Nat.le_of_lt HS.out.gl)) HGB.out), gr_new HS.out.gr hg62 HGB.out, h62, HS.out.gl⟩); clear h62 hg62 HS))
          go_roundw
          case rel =>
            refine ⟨i + 1, acc ++ [x], l2, false, by omega, by omega, by go_num, ⟨by rw [List.length_append, HI.out.1]; simp; omega, ?_, ?_, rfl, fun y hy => ?_⟩⟩
            · have h3 := HS2.out
              rw [set_mid (rawZ 0 :: acc) (n - i) (rawZ 0) x i (by rw [List.length_cons, HI.out.1]; omega) (by omega)] at h3
              exact h3
            · rw [HI.out.2.2.1, HRW.out]; simp
            · rcases List.mem_append.1 hy with h | h
              · exact HI.out.2.2.2.2 y h
              · simp at h; subst h; exact HKX.out
          case measure => simp [intOf]; omega
    · have hlt' : ¬ (i : Int) < (n : Int) := by omega
      obtain rfl : n = i := by omega
      have HA := Aside0.mk HI.out.2.2.2.2
      have HAL := Aside0.mk HI.out.1
      have hrow := HI.out.2.1
      rw [Nat.sub_self, List.replicate_zero, List.append_nil] at hrow
      have htt : tot = (0, acc, l, false) := by
        rw [HI.out.2.2.1, HI.out.2.2.2.1, Nat.sub_self]
        show ((0 : Int), acc ++ [], l, false) = _
        rw [List.append_nil]
      obtain rfl : b = false := HI.out.2.2.2.1
      rw [htt] at HRF
      clear htt HTL HTOT HI
      obtain ⟨LL, hLL⟩ : ∃ LL, LL = rawZ 0 :: acc := ⟨_, rfl⟩
      have HLN : Aside0 (n = LL.length) := ⟨by rw [hLL, List.length_cons, HAL.out]; omega⟩
      have HSM : Aside0 (∀ y ∈ LL, y.text.size ≤ 65535) := ⟨fun y hy => by
        rw [hLL] at hy
        rcases List.mem_cons.1 hy with e | e
        · rw [e]; decide
        · exact (HA.out y e).2⟩
      have HRE : Aside0 (res = if (consF vv LL acc).1 ≠ 0 then ((consF vv LL acc).1, [], l, false) else (0, conZ 0 :: (consF vv LL acc).2, l, false)) := ⟨by rw [HRF.out, hLL]; simp⟩
      have HXI : Aside0 (∀ i, 1 ≤ i → i < n → rd62 LL (i : Int) = acc.getD (i - 1) (rawZ 0) ∧ acc.drop (i - 1) = acc.getD (i - 1) (rawZ 0) :: acc.drop i ∧ acc.getD (i - 1) (rawZ 0) ∈ acc) := ⟨fun i h1 h2 => by
        have hl := HAL.out
        have h3 : i - 1 < acc.length := by omega
        refine ⟨?_, ?_, ?_⟩
        · unfold rd62
          rw [Int.toNat_natCast, hLL]
          obtain ⟨k, rfl⟩ : ∃ k, i = k + 1 := ⟨i - 1, by omega⟩
          rfl
        · rw [List.drop_eq_getElem_cons h3, show i - 1 + 1 = i by omega]
          simp [List.getD_eq_getElem?_getD, h3]
        · simp [List.getD_eq_getElem?_getD, h3]⟩
      rw [← hLL] at hrow
      have HS := Aside0.mk hrow
      clear hrow hLL HRF
      go_wp2_with (first | ((with_reducible refine gate_dst (N := 59) rfl ?_); refine Kd.R_make k44 (w0 := wr) w.heap.size 44 rfl (N := 59) rfl 39 (.tmp 58) (.tmp 58) rfl (n : Int) rfl rfl Try.underlying39 (.agg (conC (conZ 0))) 64 infoCb rfl (by decide) (by decide) (conZ 0) (ok := fun _ => True) (okp := fun _ => True) (conM _ _ _ _) (fun _ h => h) trivial (by omega) (by omega) (Below.refl _ _) HS.out.size ?_; intro v13 wd h13 hb13 hg13 hat13; have n_ := Aside0.mk (HS.out.grown0 hg13); clear HS; have HS := n_; clear n_; have HC := Aside0.mk h13; clear h13 hb13 hg13 hat13))
      obtain ⟨gc, cap2, hform2, hgc⟩ : ∃ gc cap2, v13 = .slice (some ⟨gc, 0, none⟩) n cap2 ∧ n ≤ cap2 := by
        obtain ⟨A7, c7, e7, h7l, _⟩ := Kd.R_reads HC.out
        obtain ⟨gb2, cap, e, h2, _⟩ := Kd.R_form HC.out (by rw [List.length_replicate]; omega)
        rw [List.length_replicate] at e e7 h7l
        have e8 := e
        rw [e7] at e
        injection e with _ _ e; subst e
        exact ⟨gb2, c7, e8, h7l⟩
      subst hform2
      clear hgc
      go_loopw [14] (fun v14 wr => ∃ (i : Nat) (ys : List S44), 1 ≤ i ∧ i ≤ n ∧ v14 = .int .i64 i ∧ Aside0 (ys.length = i - 1 ∧ RDS W0 w wr g l false (.slice (some ⟨gb, 0, none⟩) n cap) LL ∧ Kd.R k44 44 wr w.heap.size (fun _ => True) (.slice (some ⟨gc, 0, none⟩) n cap2) (conZ 0 :: ys ++ List.replicate (n - i) (conZ 0)) ∧ consF vv LL acc = ((consF vv LL (acc.drop (i - 1))).1, ys ++ (consF vv LL (acc.drop (i - 1))).2))) (fun v14 _ => n - (intOf v14).toNat)
      case atStart =>
        refine ⟨1, [], Nat.le_refl _, hn1, rfl, ⟨rfl, HS.out, ?_, rfl⟩⟩
        have h2 : (conZ 0 :: ([] : List S44) ++ List.replicate (n - 1) (conZ 0)) = List.replicate n (conZ 0) := by
          show conZ 0 :: List.replicate (n - 1) (conZ 0) = _
          rw [← List.replicate_succ, show n - 1 + 1 = n by omega]
        rw [h2]; exact HC.out
      case round =>
        clear HS HC
        obtain ⟨i, ys, hi1, hin, rfl, HI⟩ := hrel
        by_cases hlt : i < n
        · have hlt' : (i : Int) < (n : Int) := by omega
          have hi1' : (1 : Int) ≤ (i : Int) := by omega
          have HS := Aside0.mk HI.out.2.1
          have HC := Aside0.mk HI.out.2.2.1
          obtain ⟨x1, x2, x3⟩ := HXI.out i hi1 hlt
          generalize acc.getD (i - 1) (rawZ 0) = x at *
          have HX := Aside0.mk x1
          have HKX := Aside0.mk (HA.out x x3).1
          have HVX : Aside0 ((preF LL x).2 = true → ValOk vv (preF LL x).1) := ⟨fun _ => by
            obtain ⟨p1, p2, p3⟩ := preF_small HSM.out (HA.out x x3).2
            exact HVV.out _ p1 p2 p3⟩
          rcases hme : madeF vv LL x with ⟨cc, e⟩
          have HME := Aside0.mk hme
          have HCO : Aside0 (consF vv LL acc = if e ≠ 0 then (e, ys) else ((consF vv LL (acc.drop i)).1, ys ++ (cc :: (consF vv LL (acc.drop i)).2))) := ⟨by
            rw [HI.out.2.2.2, x2]
            conv => lhs; unfold consF
            rw [hme]
            dsimp only
            split
            · rw [List.append_nil]
            · rfl⟩
          clear x1 x2 x3 hme
          by_cases he : e = 0
          · subst he
            rw [if_neg (by decide)] at HCO
            go_wp2_with (first | (go_at_call 23; (with_reducible refine (made_at (x := x) HLN.out (Kd.R_reads' HS.out.row).2.2 HCAP.out hlt HX.out HKX.out HVX.out HME.out).mono ?_); rintro e' we ⟨rfl, hbl⟩; have n_ := Aside0.mk (HS.out.below hbl); clear HS; have HS := n_; clear n_; have n_ := Aside0.mk (Kd.R_below HC.out hbl); clear HC; have HC := n_; clear n_ hbl) | ((with_reducible refine gate_dst (N := 15) rfl ?_); refine box_event ?hg (N := 15) ?hd (cs := #[.int .i64 0, .int .i64 0, .string ⟨#[]⟩, .string ⟨#[]⟩, .string ⟨#[]⟩]) (t := 44) ?hr ?_; (case hd => rfl); (case hg => rfl); (case hr => first | (go_simp; done) | (go_simp; rfl)); intro b9 hb9 wf hk9 hbl; have HK9 := Aside0.mk (show Blk wf b9 44 (conC (conZ 0)) from hk9); have HBL := Aside0.mk hbl; have HE := Aside0.mk (Nat.le_of_eq hb9.symm); clear hb9 hk9 hbl) | (refine blk_store rfl 44 (.tmp 15) (.tmp 69) rfl (cs' := conC cc) infoC rfl rfl (conC_one _) HK9.out rfl ?_; intro wg hb4 hg4 hz4; have n_ := Aside0.mk hb4; clear HK9; have HK9 := n_; clear n_; have HBL2 := Aside0.mk (HBL.out.grown hg4 HBL.out.size (fun k hk => by cases hk; exact HE.out)); have n_ := Aside0.mk (HS.out.below HBL2.out); clear HS; have HS := n_; clear n_; have n_ := Aside0.mk (Kd.R_below HC.out HBL2.out); clear HC; have HC := n_; clear n_; clear hb4 hg4 hz4 HBL HE HBL2) | ((with_reducible refine gate_dst (N := 76) rfl ?_); refine blk_load (cs := conC cc) rfl 44 (.tmp 15) rfl Try.underlying44 rfl infoC rfl HK9.out ?_) | (refine storeC ?a1 ?a2 (.tmp 77) (.tmp 76) ?a3 (gb := gc) (o' := i * 5) i cc ?a4 ?a5 ?a6 HC.out hlt ?a9; (case a1 => rfl); (case a2 => rfl); (case a3 => rfl); (case a5 => rfl); (case a4 => rfl); (case a6 => rfl); intro wi h44 hg44; have HS2 := Aside0.mk (HS.out.putC HC.out hlt hg44); have HC2 := Aside0.mk h44; clear h44 hg44 HS HC))
            go_roundw
            case rel =>
              refine ⟨i + 1, ys ++ [cc], by omega, by omega, by go_num, ⟨by rw [List.length_append, HI.out.1]; simp; omega, HS2.out, ?_, ?_⟩⟩
              · have h3 := HC2.out
                rw [set_mid (conZ 0 :: ys) (n - i) (conZ 0) cc i (by rw [List.length_cons, HI.out.1]; omega) (by omega)] at h3
                exact h3
              · rw [HCO.out]; simp
            case measure => simp [intOf]; omega
          · have he' : (e == 0) = false := by simpa using he
            have hres : res = (e, [], l, false) := by
              rw [HRE.out, HCO.out, if_pos he]; simp [he]
            subst hres
            clear HRE HCO
            go_wp2_with (first | (go_at_call 23; (with_reducible refine (made_at (x := x) HLN.out (Kd.R_reads' HS.out.row).2.2 HCAP.out hlt HX.out HKX.out HVX.out HME.out).mono ?_); rintro e' we ⟨rfl, hbl⟩; have n_ := Aside0.mk (HS.out.below hbl); clear HS; have HS := n_; clear n_; have n_ := Aside0.mk (Kd.R_below HC.out hbl); clear HC; have HC := n_; clear n_ hbl) | ((with_reducible refine gate_dst (N := 15) rfl ?_); refine box_event ?hg (N := 15) ?hd (cs := #[.int .i64 0, .int .i64 0, .string ⟨#[]⟩, .string ⟨#[]⟩, .string ⟨#[]⟩]) (t := 44) ?hr ?_; (case hd => rfl); (case hg => rfl); (case hr => first | (go_simp; done) | (go_simp; rfl)); intro b9 hb9 wf hk9 hbl; have HK9 := Aside0.mk (show Blk wf b9 44 (conC (conZ 0)) from hk9); have HBL := Aside0.mk hbl; have HE := Aside0.mk (Nat.le_of_eq hb9.symm); clear hb9 hk9 hbl) | (refine blk_store rfl 44 (.tmp 15) (.tmp 69) rfl (cs' := conC cc) infoC rfl rfl (conC_one _) HK9.out rfl ?_; intro wg hb4 hg4 hz4; have n_ := Aside0.mk hb4; clear HK9; have HK9 := n_; clear n_; have HBL2 := Aside0.mk (HBL.out.grown hg4 HBL.out.size (fun k hk => by cases hk; exact HE.out)); have n_ := Aside0.mk (HS.out.below HBL2.out); clear HS; have HS := n_; clear n_; have n_ := Aside0.mk (Kd.R_below HC.out HBL2.out); clear HC; have HC := n_; clear n_; clear hb4 hg4 hz4 HBL HE HBL2))
            go_ret2
            exact ⟨_, rfl, Kd.R_nil _ _ _ _ _, HS.out.rs, HS.out.gr⟩
        · have hlt' : ¬ (i : Int) < (n : Int) := by omega
          obtain rfl : n = i := by omega
          have hres : res = (0, conZ 0 :: ys, l, false) := by
            have h1 := HI.out.2.2.2
            rw [List.drop_eq_nil_of_le (by have := HAL.out; omega)] at h1
            have h2 : consF vv LL [] = (0, []) := rfl
            rw [h2, List.append_nil] at h1
            rw [HRE.out, h1]; simp
          have hC := HI.out.2.2.1
          rw [Nat.sub_self, List.replicate_zero, List.append_nil] at hC
          have HC := Aside0.mk hC
          have HS := Aside0.mk HI.out.2.1
          subst hres
          clear hC HI HRE
          go_wp2_with fail
          go_ret2
          exact ⟨_, rfl, HC.out, HS.out.rs, HS.out.gr⟩
end Go.Proofs.Ytedmhopginmjaaa.PAll
