import Derived.Test.YtedmhopginmjaaaZG3
namespace Go.Proofs.Ytedmhopginmjaaa.PAll
open Go.RowKit Go.Proofs.YtedmhopginmjaaaW.PrintWords Go.Proofs.YtedmhopginmjaaaW.PrintLast Go.Proofs.YtedmhopginmjaaaW.PrintMore
open Go.Proofs.Ytedmhopginmjaaa.MapInt
set_option linter.unusedVariables false
set_option linter.unusedSimpArgs false
theorem w32mod (N : Int) : wrap32 (N % 4294967296) = wrap32 N := by unfold wrap32; omega
set_option maxHeartbeats 400000000 in
set_option maxRecDepth 100000 in
theorem bread_calls {W0 w : World} {g : Nat} {full l : List Int} {bad : Bool} (h : BS W0 w g full l bad) :
    Calls Try.prog 18 #[.pointer (some ⟨g, 0, none⟩)] w fun e w' => ∃ v, e = .returned (.tuple #[v, .int .i64 (readF validS l bad).1]) ∧ Kd.R k44 44 w' w.heap.size (fun _ => True) v (readF validS l bad).2.1 ∧ BS W0 w' g full (readF validS l bad).2.2.1 (readF validS l bad).2.2.2 ∧ w.grownBy w' (some g) := by
  have hgl : g < w.heap.size := by obtain ⟨A, c, t, hB, _⟩ := h.box; exact hB.lt
  have HR := Aside0.mk h
  rcases h1 : numF l bad 2 with ⟨N, L1, B1⟩
  have H1 := Aside0.mk h1
  have hN := numF_in 2 (bs_u8 h) h1
  have wrN : IntKind.i64.wrap N = N := IntWalk.i64_in _ (by omega)
  have wxN : wrap64 N = N := wrap64_in _ (by omega)
  obtain ⟨n, rfl⟩ : ∃ n : Nat, N = n := ⟨N.toNat, by omega⟩
  have HRF : Aside0 (readF validS l bad = if B1 = true then (11, [], L1, B1) else if (n : Int) < 1 ∨ 1000 < (n : Int) then (12, [], L1, B1) else
    if (rawsF (n - 1) L1 B1).1 ≠ 0 then ((rawsF (n - 1) L1 B1).1, [], (rawsF (n - 1) L1 B1).2.2) else
    if (consF validS (rawZ 0 :: (rawsF (n - 1) L1 B1).2.1) (rawsF (n - 1) L1 B1).2.1).1 ≠ 0 then ((consF validS (rawZ 0 :: (rawsF (n - 1) L1 B1).2.1) (rawsF (n - 1) L1 B1).2.1).1, [], (rawsF (n - 1) L1 B1).2.2) else
    (0, conZ 0 :: (consF validS (rawZ 0 :: (rawsF (n - 1) L1 B1).2.1) (rawsF (n - 1) L1 B1).2.1).2, (rawsF (n - 1) L1 B1).2.2)) := ⟨by unfold readF; rw [h1]; simp⟩
  generalize readF validS l bad = res at *
  clear h h1
  by_cases hb1 : B1 = true
  · rw [if_pos hb1] at HRF
    subst hb1
    obtain ⟨r1, r2, r3, r4⟩ := res
    have hre := HRF.out
    simp only [Prod.mk.injEq] at hre
    obtain ⟨rfl, rfl, rfl, rfl⟩ := hre
    clear HRF
    go_enter Try.func18, Try.ntmps18
    go_wp2_with (first | (go_at_call 11; (with_reducible refine (bnum_at 2 HR.out H1.out).mono ?_); rintro e wb ⟨rfl, hr, hg⟩; have n_ := Aside0.mk hr; clear HR; have HR := n_; clear n_; have HG := Aside0.mk hg; have gbad := bs_bad hr; clear hr hg))
    go_ret2
    exact ⟨_, rfl, Kd.R_nil _ _ _ _ _, HR.out, HG.out⟩
  rw [if_neg hb1] at HRF
  obtain rfl : B1 = false := by simpa using hb1
  clear hb1
  by_cases hnn : (n : Int) < 1 ∨ 1000 < (n : Int)
  · rw [if_pos hnn] at HRF
    obtain ⟨r1, r2, r3, r4⟩ := res
    have hre := HRF.out
    simp only [Prod.mk.injEq] at hre
    obtain ⟨rfl, rfl, rfl, rfl⟩ := hre
    clear HRF
    by_cases hn1 : (n : Int) < 1
    · obtain rfl : n = 0 := by omega
      clear hnn
      go_enter Try.func18, Try.ntmps18
      go_wp2_with (first | (go_at_call 11; (with_reducible refine (bnum_at 2 HR.out H1.out).mono ?_); rintro e wb ⟨rfl, hr, hg⟩; have n_ := Aside0.mk hr; clear HR; have HR := n_; clear n_; have HG := Aside0.mk hg; have gbad := bs_bad hr; clear hr hg))
      go_ret2
      exact ⟨_, rfl, Kd.R_nil _ _ _ _ _, HR.out, HG.out⟩
    · have hn2 : 1000 < (n : Int) := by omega
      have hne0 : ((n : Int) == 0) = false := by simp; omega
      clear hnn
      go_enter Try.func18, Try.ntmps18
      go_wp2_with (first | (go_at_call 11; (with_reducible refine (bnum_at 2 HR.out H1.out).mono ?_); rintro e wb ⟨rfl, hr, hg⟩; have n_ := Aside0.mk hr; clear HR; have HR := n_; clear n_; have HG := Aside0.mk hg; have gbad := bs_bad hr; clear hr hg))
      go_ret2
      exact ⟨_, rfl, Kd.R_nil _ _ _ _ _, HR.out, HG.out⟩
  rw [if_neg hnn] at HRF
  have hn1 : 1 ≤ n := by omega
  have hn2 : n ≤ 1000 := by omega
  have hni : (1 : Int) ≤ (n : Int) := by omega
  have hni2 : (n : Int) ≤ 1000 := by omega
  have hne0 : ((n : Int) == 0) = false := by simp; omega
  clear hnn
  obtain ⟨tot, htot⟩ : ∃ t, t = rawsF (n - 1) L1 false := ⟨_, rfl⟩
  rw [← htot] at HRF
  have HTOT := Aside0.mk htot
  have HTL : Aside0 (tot.1 = 0 → tot.2.1.length = n - 1) := ⟨fun h => by rw [htot] at h ⊢; exact rawsF_len _ _ _ h⟩
  clear htot
  go_enter Try.func18, Try.ntmps18
  go_wp2_with (first | (go_at_call 11; (with_reducible refine (bnum_at 2 HR.out H1.out).mono ?_); rintro e wb ⟨rfl, hr, hg⟩; have n_ := Aside0.mk hr; clear HR; have HR := n_; clear n_; have HG := Aside0.mk hg; have gbad := bs_bad hr; clear hr hg) | ((with_reducible refine gate_dst (N := 28) rfl ?_); refine Kd.R_make k70 (w0 := wb) w.heap.size 70 rfl (N := 28) rfl 68 (.tmp 27) (.tmp 27) rfl (n : Int) rfl rfl Try.underlying68 (.agg (entC entZ)) 88 infoEb rfl (by decide) (by decide) entZ (ok := fun _ => True) (okp := fun _ => True) (entM _ _ _ _) (fun _ h => h) trivial (by omega) (by omega) (Below.refl _ _) HG.out.size ?_; intro v7 wd h7 hb7 hg7 hat7; have HS : Aside0 (BDS W0 w wd g full L1 false v7 (List.replicate n entZ)) := ⟨⟨HR.out.kept hg7 (fun e => by cases e) (fun k hk => by cases hk), HG.out.trans ⟨hg7.os, hg7.tape, hg7.output, hg7.size, fun k hk hne => hg7.block k hk (fun e => by cases e)⟩, h7, hgl⟩⟩; clear h7 hb7 hg7 hat7 HR HG gbad))
  obtain ⟨gb, cap, hform, hcap⟩ : ∃ gb cap, v7 = .slice (some ⟨gb, 0, none⟩) n cap ∧ n ≤ cap ∧ w.heap.size ≤ gb := by
    obtain ⟨A7, c7, e7, h7l, _⟩ := Kd.R_reads HS.out.row
    obtain ⟨gb, cap, e, h2, _⟩ := Kd.R_form HS.out.row (by rw [List.length_replicate]; omega)
    rw [List.length_replicate] at e e7 h7l
    have e8 := e
    rw [e7] at e
    injection e with _ _ e; subst e
    exact ⟨gb, c7, e8, h7l, h2⟩
  subst hform
  have HCAP := Aside0.mk hcap.1
  have HGB := Aside0.mk hcap.2
  clear hcap
  go_loopw [6] (fun v6 wr => ∃ (i : Nat) (acc : List SR) (l : List Int) (b : Bool), 1 ≤ i ∧ i ≤ n ∧ v6 = .int .i64 i ∧ Aside0 (acc.length = i - 1 ∧ BDS W0 w wr g full l b (.slice (some ⟨gb, 0, none⟩) n cap) ((rawZ 0 :: acc ++ List.replicate (n - i) (rawZ 0)).map entOf) ∧ tot = ((rawsF (n - i) l b).1, acc ++ (rawsF (n - i) l b).2.1, (rawsF (n - i) l b).2.2) ∧ b = false ∧ ∀ x ∈ acc, kindIn x ∧ x.text.size ≤ 65535)) (fun v6 _ => n - (intOf v6).toNat)
  case atStart =>
    refine ⟨1, [], L1, false, Nat.le_refl _, hn1, rfl, ⟨rfl, ?_, ?_, rfl, fun x hx => by cases hx⟩⟩
    · have h2 : (rawZ 0 :: ([] : List SR) ++ List.replicate (n - 1) (rawZ 0)).map entOf = List.replicate n entZ := by
        show (rawZ 0 :: List.replicate (n - 1) (rawZ 0)).map entOf = _
        rw [← List.replicate_succ, show n - 1 + 1 = n by omega, List.map_replicate]; rfl
      rw [h2]; exact HS.out
    · rw [HTOT.out, List.nil_append]
  case round =>
    clear HS
    obtain ⟨i, acc, l, b, hi1, hin, rfl, HI⟩ := hrel
    by_cases hlt : i < n
    · have hlt' : (i : Int) < (n : Int) := by omega
      have hi1' : (1 : Int) ≤ (i : Int) := by omega
      rcases h1 : numF l b 1 with ⟨K, L1, B1⟩
      have H1 := Aside0.mk h1
      have HS := Aside0.mk HI.out.2.1
      have hu := numF_u8 (bs_u8 HI.out.2.1.bs) h1
      by_cases k1 : K = 1
      · subst k1
        rcases h2 : numF L1 B1 2 with ⟨N, L2, B2⟩
        have H2 := Aside0.mk h2
        have hN := numF_in 2 hu h2
        have wrN : IntKind.i64.wrap N = N := IntWalk.i64_in _ (by have := hN; omega)
        have wxN : wrap64 N = N := wrap64_in _ (by have := hN; omega)
        rcases h3 : takeF L2 B2 N with ⟨S, L3, B3⟩
        have H3 := Aside0.mk h3
        · skip
          have ho : oneF l b = ((⟨1, 0, S, 0, 0, 0⟩ : SR), true, L3, B3) := by unfold oneF; simp [h1, h2, h3]
          have HO := Aside0.mk ho
          have HRW : Aside0 (rawsF (n - i) l b = if B3 = true then (11, [], L3, B3) else if true = false then (12, [], L3, B3) else ((rawsF (n - (i + 1)) L3 B3).1, (⟨1, 0, S, 0, 0, 0⟩ : SR) :: (rawsF (n - (i + 1)) L3 B3).2.1, (rawsF (n - (i + 1)) L3 B3).2.2)) := ⟨by
            rw [show n - i = (n - (i + 1)) + 1 by omega]
            conv => lhs; unfold rawsF
            rw [ho]⟩
          have HEE : Aside0 (entOf (⟨1, 0, S, 0, 0, 0⟩ : SR) = ⟨⟨1, 0, S, ⟨#[]⟩, ⟨#[]⟩⟩, 0, 0, 0⟩) := ⟨by first | rfl | simp [entOf, conZ, rawZ, w32mod]⟩
          clear ho h2 h3
          cases B3 with
          | true =>
            have hres : res = (11, [], L3, true) := by
              rw [HRF.out, HI.out.2.2.1, HRW.out]; simp
            subst hres
            clear HRF HRW
            go_wp2_with (first | (go_at_call 11; (with_reducible refine (bnum_at 1 HS.out.bs H1.out).mono ?_); rintro e we ⟨rfl, hr, hg⟩; have n_ := Aside0.mk (HS.out.called hr hg); clear hr hg; clear HS; have HS := n_; clear n_) | ((with_reducible refine gate_dst (N := 8) rfl ?_); refine box_event ?hg (N := 8) ?hd (cs := #[.int .i64 0, .int .i64 0, .string ⟨#[]⟩, .string ⟨#[]⟩, .string ⟨#[]⟩, .int .i64 0, .int .i64 0, .int .i64 0]) (t := 70) ?hr ?_; (case hd => rfl); (case hg => rfl); (case hr => first | (go_simp; done) | (go_simp; rfl)); intro b8 hb8 wf hk8 hbl; have HK8 := Aside0.mk (show Blk wf b8 70 (entC entZ) from hk8); have HBL := Aside0.mk hbl; have HQ8 := Aside0.mk hb8; clear hb8 hk8 hbl) | ((with_reducible refine gate_store (t := 70) (p := 8) (v := .tmp 39) rfl ?_); refine blk_store rfl 70 (.tmp 8) (.tmp 39) rfl (cs' := entC ⟨conZ 1, 0, 0, 0⟩) infoE rfl rfl (entC_one _) HK8.out rfl ?_; intro wg hb4 hg4 hz4; have HE : Aside0 (RES W0 w wg g full L1 _ (.slice (some ⟨gb, 0, none⟩) n cap) _ b8 ⟨conZ 1, 0, 0, 0⟩) := ⟨by have h9 := HQ8.out; subst h9; exact HS.out.res (HBL.out.grown hg4 HBL.out.size (fun k hk => by cases hk; exact Nat.le_refl _)) hb4⟩; clear hb4 hg4 hz4 HBL HQ8 HK8) | (go_at_call 11; (with_reducible refine (bnum_at 2 HE.out.bs H2.out).mono ?_); rintro e wh ⟨rfl, hr, hg⟩; have n_ := Aside0.mk (HE.out.called hr hg); clear hr hg; clear HE; have HE := n_; clear n_) | (go_at_call 13; (with_reducible refine (btake_calls N HE.out.bs H3.out).mono ?_); rintro e wh ⟨rfl, hr, hg⟩; have n_ := Aside0.mk (HE.out.called hr hg); clear hr hg; clear HE; have HE := n_; clear n_) | ((with_reducible refine gate_store (t := 9) (p := 49) (v := .tmp 47) rfl ?_); refine cell_store rfl 9 (.tmp 49) (.tmp 47) rfl oiStr (q := 2) rfl rfl rfl HE.out.k8 (by simp [entC]) ?_; intro wf hb8 hg8 hz8; have n_ := Aside0.mk (HE.out.put8 (E2 := ⟨⟨1, 0, S, ⟨#[]⟩, ⟨#[]⟩⟩, 0, 0, 0⟩) hb8 hg8); clear hb8 hg8 hz8; clear HE; have HE := n_; clear n_) | ((with_reducible refine gate_dst (N := 91) rfl ?_); refine cell_load rfl 4 (.tmp 90) rfl Try.underlying4 rfl rfl (bs_bad HE.out.bs) ?_))
            go_ret2
            exact ⟨_, rfl, Kd.R_nil _ _ _ _ _, HE.out.bs, HE.out.gr⟩
          | false =>
            rw [if_neg (by decide), if_neg (by decide)] at HRW
            have HKX : Aside0 (kindIn (⟨1, 0, S, 0, 0, 0⟩ : SR) ∧ ((⟨1, 0, S, 0, 0, 0⟩ : SR) : SR).text.size ≤ 65535) := ⟨by
              have h1 := oneF_kind (l := l) (bad := b) (by rw [HO.out])
              have h2 := oneF_text l b (bs_u8 HI.out.2.1.bs)
              rw [HO.out] at h1 h2
              exact ⟨h1, h2⟩⟩
            go_wp2_with (first | (go_at_call 11; (with_reducible refine (bnum_at 1 HS.out.bs H1.out).mono ?_); rintro e we ⟨rfl, hr, hg⟩; have n_ := Aside0.mk (HS.out.called hr hg); clear hr hg; clear HS; have HS := n_; clear n_) | ((with_reducible refine gate_dst (N := 8) rfl ?_); refine box_event ?hg (N := 8) ?hd (cs := #[.int .i64 0, .int .i64 0, .string ⟨#[]⟩, .string ⟨#[]⟩, .string ⟨#[]⟩, .int .i64 0, .int .i64 0, .int .i64 0]) (t := 70) ?hr ?_; (case hd => rfl); (case hg => rfl); (case hr => first | (go_simp; done) | (go_simp; rfl)); intro b8 hb8 wf hk8 hbl; have HK8 := Aside0.mk (show Blk wf b8 70 (entC entZ) from hk8); have HBL := Aside0.mk hbl; have HQ8 := Aside0.mk hb8; clear hb8 hk8 hbl) | ((with_reducible refine gate_store (t := 70) (p := 8) (v := .tmp 39) rfl ?_); refine blk_store rfl 70 (.tmp 8) (.tmp 39) rfl (cs' := entC ⟨conZ 1, 0, 0, 0⟩) infoE rfl rfl (entC_one _) HK8.out rfl ?_; intro wg hb4 hg4 hz4; have HE : Aside0 (RES W0 w wg g full L1 _ (.slice (some ⟨gb, 0, none⟩) n cap) _ b8 ⟨conZ 1, 0, 0, 0⟩) := ⟨by have h9 := HQ8.out; subst h9; exact HS.out.res (HBL.out.grown hg4 HBL.out.size (fun k hk => by cases hk; exact Nat.le_refl _)) hb4⟩; clear hb4 hg4 hz4 HBL HQ8 HK8) | (go_at_call 11; (with_reducible refine (bnum_at 2 HE.out.bs H2.out).mono ?_); rintro e wh ⟨rfl, hr, hg⟩; have n_ := Aside0.mk (HE.out.called hr hg); clear hr hg; clear HE; have HE := n_; clear n_) | (go_at_call 13; (with_reducible refine (btake_calls N HE.out.bs H3.out).mono ?_); rintro e wh ⟨rfl, hr, hg⟩; have n_ := Aside0.mk (HE.out.called hr hg); clear hr hg; clear HE; have HE := n_; clear n_) | ((with_reducible refine gate_store (t := 9) (p := 49) (v := .tmp 47) rfl ?_); refine cell_store rfl 9 (.tmp 49) (.tmp 47) rfl oiStr (q := 2) rfl rfl rfl HE.out.k8 (by simp [entC]) ?_; intro wf hb8 hg8 hz8; have n_ := Aside0.mk (HE.out.put8 (E2 := ⟨⟨1, 0, S, ⟨#[]⟩, ⟨#[]⟩⟩, 0, 0, 0⟩) hb8 hg8); clear hb8 hg8 hz8; clear HE; have HE := n_; clear n_) | ((with_reducible refine gate_dst (N := 91) rfl ?_); refine cell_load rfl 4 (.tmp 90) rfl Try.underlying4 rfl rfl (bs_bad HE.out.bs) ?_) | ((with_reducible refine gate_dst (N := 96) rfl ?_); refine blk_load (cs := entC (⟨⟨1, 0, S, ⟨#[]⟩, ⟨#[]⟩⟩, 0, 0, 0⟩)) rfl 70 (.tmp 8) rfl Try.underlying70 rfl infoE rfl HE.out.k8 ?_) | ((with_reducible refine gate_store (t := 70) (p := 97) (v := .tmp 96) rfl ?_); refine storeE ?a1x1 ?a2x1 (.tmp 97) (.tmp 96) ?a3x1 (gb := gb) (o' := i * 8) i (⟨⟨1, 0, S, ⟨#[]⟩, ⟨#[]⟩⟩, 0, 0, 0⟩) ?a4x1 ?a5x1 ?a6x1 HE.out.bds.row hlt ?a9x1; (case a1x1 => rfl); (case a2x1 => rfl); (case a3x1 => rfl); (case a5x1 => rfl); (case a4x1 => rfl); (case a6x1 => rfl); intro wi h62 hg62; have HS2 := Aside0.mk (HE.out.putrow h62 hg62 HGB.out); clear h62 hg62 HE HS))
            go_roundw
            case rel =>
              refine ⟨i + 1, acc ++ [(⟨1, 0, S, 0, 0, 0⟩ : SR)], L3, false, by omega, by omega, by go_num, ⟨by rw [List.length_append, HI.out.1]; simp; omega, ?_, ?_, rfl, fun y hy => ?_⟩⟩
              · have h3 := HS2.out
                rw [← HEE.out, ← List.map_set, set_mid (rawZ 0 :: acc) (n - i) (rawZ 0) (⟨1, 0, S, 0, 0, 0⟩ : SR) i (by rw [List.length_cons, HI.out.1]; omega) (by omega)] at h3
                exact h3
              · rw [HI.out.2.2.1, HRW.out]; simp
              · rcases List.mem_append.1 hy with h | h
                · exact HI.out.2.2.2.2 y h
                · simp at h; subst h; exact HKX.out
            case measure => simp [intOf]; omega
      by_cases k3 : K = 3
      · subst k3
        have hu1 := hu
        rcases h2 : numF L1 B1 4 with ⟨N, L2, B2⟩
        have H2 := Aside0.mk h2
        have hN := numF_in 4 hu1 h2
        have hu2 := numF_u8 hu1 h2
        · skip
          have ho : oneF l b = ((⟨3, N, ⟨#[]⟩, 0, 0, 0⟩ : SR), true, L2, B2) := by unfold oneF; simp [h1, h2]
          have HO := Aside0.mk ho
          have HRW : Aside0 (rawsF (n - i) l b = if B2 = true then (11, [], L2, B2) else if true = false then (12, [], L2, B2) else ((rawsF (n - (i + 1)) L2 B2).1, (⟨3, N, ⟨#[]⟩, 0, 0, 0⟩ : SR) :: (rawsF (n - (i + 1)) L2 B2).2.1, (rawsF (n - (i + 1)) L2 B2).2.2)) := ⟨by
            rw [show n - i = (n - (i + 1)) + 1 by omega]
            conv => lhs; unfold rawsF
            rw [ho]⟩
          have HEE : Aside0 (entOf (⟨3, N, ⟨#[]⟩, 0, 0, 0⟩ : SR) = ⟨⟨3, wrap64 (wrap32 N), ⟨#[]⟩, ⟨#[]⟩, ⟨#[]⟩⟩, 0, 0, 0⟩) := ⟨by first | rfl | simp [entOf, conZ, rawZ, w32mod]⟩
          clear ho h2
          cases B2 with
          | true =>
            have hres : res = (11, [], L2, true) := by
              rw [HRF.out, HI.out.2.2.1, HRW.out]; simp
            subst hres
            clear HRF HRW
            go_wp2_with (first | (go_at_call 11; (with_reducible refine (bnum_at 1 HS.out.bs H1.out).mono ?_); rintro e we ⟨rfl, hr, hg⟩; have n_ := Aside0.mk (HS.out.called hr hg); clear hr hg; clear HS; have HS := n_; clear n_) | ((with_reducible refine gate_dst (N := 8) rfl ?_); refine box_event ?hg (N := 8) ?hd (cs := #[.int .i64 0, .int .i64 0, .string ⟨#[]⟩, .string ⟨#[]⟩, .string ⟨#[]⟩, .int .i64 0, .int .i64 0, .int .i64 0]) (t := 70) ?hr ?_; (case hd => rfl); (case hg => rfl); (case hr => first | (go_simp; done) | (go_simp; rfl)); intro b8 hb8 wf hk8 hbl; have HK8 := Aside0.mk (show Blk wf b8 70 (entC entZ) from hk8); have HBL := Aside0.mk hbl; have HQ8 := Aside0.mk hb8; clear hb8 hk8 hbl) | ((with_reducible refine gate_store (t := 70) (p := 8) (v := .tmp 39) rfl ?_); refine blk_store rfl 70 (.tmp 8) (.tmp 39) rfl (cs' := entC ⟨conZ 3, 0, 0, 0⟩) infoE rfl rfl (entC_one _) HK8.out rfl ?_; intro wg hb4 hg4 hz4; have HE : Aside0 (RES W0 w wg g full L1 _ (.slice (some ⟨gb, 0, none⟩) n cap) _ b8 ⟨conZ 3, 0, 0, 0⟩) := ⟨by have h9 := HQ8.out; subst h9; exact HS.out.res (HBL.out.grown hg4 HBL.out.size (fun k hk => by cases hk; exact Nat.le_refl _)) hb4⟩; clear hb4 hg4 hz4 HBL HQ8 HK8) | (go_at_call 11; (with_reducible refine (bnum_at 4 HE.out.bs H2.out).mono ?_); rintro e wh ⟨rfl, hr, hg⟩; have n_ := Aside0.mk (HE.out.called hr hg); clear hr hg; clear HE; have HE := n_; clear n_) | ((with_reducible refine gate_store (t := 2) (p := 57) (v := .tmp 55) rfl ?_); refine cell_store rfl 2 (.tmp 57) (.tmp 55) rfl oiI64 (q := 1) rfl rfl rfl HE.out.k8 (by simp [entC]) ?_; intro wf hb8 hg8 hz8; have n_ := Aside0.mk (HE.out.put8 (E2 := ⟨⟨3, wrap64 (wrap32 N), ⟨#[]⟩, ⟨#[]⟩, ⟨#[]⟩⟩, 0, 0, 0⟩) hb8 hg8); clear hb8 hg8 hz8; clear HE; have HE := n_; clear n_) | ((with_reducible refine gate_dst (N := 91) rfl ?_); refine cell_load rfl 4 (.tmp 90) rfl Try.underlying4 rfl rfl (bs_bad HE.out.bs) ?_))
            go_ret2
            exact ⟨_, rfl, Kd.R_nil _ _ _ _ _, HE.out.bs, HE.out.gr⟩
          | false =>
            rw [if_neg (by decide), if_neg (by decide)] at HRW
            have HKX : Aside0 (kindIn (⟨3, N, ⟨#[]⟩, 0, 0, 0⟩ : SR) ∧ ((⟨3, N, ⟨#[]⟩, 0, 0, 0⟩ : SR) : SR).text.size ≤ 65535) := ⟨by
              have h1 := oneF_kind (l := l) (bad := b) (by rw [HO.out])
              have h2 := oneF_text l b (bs_u8 HI.out.2.1.bs)
              rw [HO.out] at h1 h2
              exact ⟨h1, h2⟩⟩
            go_wp2_with (first | (go_at_call 11; (with_reducible refine (bnum_at 1 HS.out.bs H1.out).mono ?_); rintro e we ⟨rfl, hr, hg⟩; have n_ := Aside0.mk (HS.out.called hr hg); clear hr hg; clear HS; have HS := n_; clear n_) | ((with_reducible refine gate_dst (N := 8) rfl ?_); refine box_event ?hg (N := 8) ?hd (cs := #[.int .i64 0, .int .i64 0, .string ⟨#[]⟩, .string ⟨#[]⟩, .string ⟨#[]⟩, .int .i64 0, .int .i64 0, .int .i64 0]) (t := 70) ?hr ?_; (case hd => rfl); (case hg => rfl); (case hr => first | (go_simp; done) | (go_simp; rfl)); intro b8 hb8 wf hk8 hbl; have HK8 := Aside0.mk (show Blk wf b8 70 (entC entZ) from hk8); have HBL := Aside0.mk hbl; have HQ8 := Aside0.mk hb8; clear hb8 hk8 hbl) | ((with_reducible refine gate_store (t := 70) (p := 8) (v := .tmp 39) rfl ?_); refine blk_store rfl 70 (.tmp 8) (.tmp 39) rfl (cs' := entC ⟨conZ 3, 0, 0, 0⟩) infoE rfl rfl (entC_one _) HK8.out rfl ?_; intro wg hb4 hg4 hz4; have HE : Aside0 (RES W0 w wg g full L1 _ (.slice (some ⟨gb, 0, none⟩) n cap) _ b8 ⟨conZ 3, 0, 0, 0⟩) := ⟨by have h9 := HQ8.out; subst h9; exact HS.out.res (HBL.out.grown hg4 HBL.out.size (fun k hk => by cases hk; exact Nat.le_refl _)) hb4⟩; clear hb4 hg4 hz4 HBL HQ8 HK8) | (go_at_call 11; (with_reducible refine (bnum_at 4 HE.out.bs H2.out).mono ?_); rintro e wh ⟨rfl, hr, hg⟩; have n_ := Aside0.mk (HE.out.called hr hg); clear hr hg; clear HE; have HE := n_; clear n_) | ((with_reducible refine gate_store (t := 2) (p := 57) (v := .tmp 55) rfl ?_); refine cell_store rfl 2 (.tmp 57) (.tmp 55) rfl oiI64 (q := 1) rfl rfl rfl HE.out.k8 (by simp [entC]) ?_; intro wf hb8 hg8 hz8; have n_ := Aside0.mk (HE.out.put8 (E2 := ⟨⟨3, wrap64 (wrap32 N), ⟨#[]⟩, ⟨#[]⟩, ⟨#[]⟩⟩, 0, 0, 0⟩) hb8 hg8); clear hb8 hg8 hz8; clear HE; have HE := n_; clear n_) | ((with_reducible refine gate_dst (N := 91) rfl ?_); refine cell_load rfl 4 (.tmp 90) rfl Try.underlying4 rfl rfl (bs_bad HE.out.bs) ?_) | ((with_reducible refine gate_dst (N := 96) rfl ?_); refine blk_load (cs := entC (⟨⟨3, wrap64 (wrap32 N), ⟨#[]⟩, ⟨#[]⟩, ⟨#[]⟩⟩, 0, 0, 0⟩)) rfl 70 (.tmp 8) rfl Try.underlying70 rfl infoE rfl HE.out.k8 ?_) | ((with_reducible refine gate_store (t := 70) (p := 97) (v := .tmp 96) rfl ?_); refine storeE ?a1x3 ?a2x3 (.tmp 97) (.tmp 96) ?a3x3 (gb := gb) (o' := i * 8) i (⟨⟨3, wrap64 (wrap32 N), ⟨#[]⟩, ⟨#[]⟩, ⟨#[]⟩⟩, 0, 0, 0⟩) ?a4x3 ?a5x3 ?a6x3 HE.out.bds.row hlt ?a9x3; (case a1x3 => rfl); (case a2x3 => rfl); (case a3x3 => rfl); (case a5x3 => rfl); (case a4x3 => rfl); (case a6x3 => rfl); intro wi h62 hg62; have HS2 := Aside0.mk (HE.out.putrow h62 hg62 HGB.out); clear h62 hg62 HE HS))
            go_roundw
            case rel =>
              refine ⟨i + 1, acc ++ [(⟨3, N, ⟨#[]⟩, 0, 0, 0⟩ : SR)], L2, false, by omega, by omega, by go_num, ⟨by rw [List.length_append, HI.out.1]; simp; omega, ?_, ?_, rfl, fun y hy => ?_⟩⟩
              · have h3 := HS2.out
                rw [← HEE.out, ← List.map_set, set_mid (rawZ 0 :: acc) (n - i) (rawZ 0) (⟨3, N, ⟨#[]⟩, 0, 0, 0⟩ : SR) i (by rw [List.length_cons, HI.out.1]; omega) (by omega)] at h3
                exact h3
              · rw [HI.out.2.2.1, HRW.out]; simp
              · rcases List.mem_append.1 hy with h | h
                · exact HI.out.2.2.2.2 y h
                · simp at h; subst h; exact HKX.out
            case measure => simp [intOf]; omega
      by_cases k5 : K = 5
      · subst k5
        have hu1 := hu
        rcases h2 : numF L1 B1 8 with ⟨N, L2, B2⟩
        have H2 := Aside0.mk h2
        have hN := numF_in 8 hu1 h2
        have hu2 := numF_u8 hu1 h2
        · skip
          have ho : oneF l b = ((⟨5, N, ⟨#[]⟩, 0, 0, 0⟩ : SR), true, L2, B2) := by unfold oneF; simp [h1, h2]
          have HO := Aside0.mk ho
          have HRW : Aside0 (rawsF (n - i) l b = if B2 = true then (11, [], L2, B2) else if true = false then (12, [], L2, B2) else ((rawsF (n - (i + 1)) L2 B2).1, (⟨5, N, ⟨#[]⟩, 0, 0, 0⟩ : SR) :: (rawsF (n - (i + 1)) L2 B2).2.1, (rawsF (n - (i + 1)) L2 B2).2.2)) := ⟨by
            rw [show n - i = (n - (i + 1)) + 1 by omega]
            conv => lhs; unfold rawsF
            rw [ho]⟩
          have HEE : Aside0 (entOf (⟨5, N, ⟨#[]⟩, 0, 0, 0⟩ : SR) = ⟨⟨5, wrap64 N, ⟨#[]⟩, ⟨#[]⟩, ⟨#[]⟩⟩, 0, 0, 0⟩) := ⟨by first | rfl | simp [entOf, conZ, rawZ, w32mod]⟩
          clear ho h2
          cases B2 with
          | true =>
            have hres : res = (11, [], L2, true) := by
              rw [HRF.out, HI.out.2.2.1, HRW.out]; simp
            subst hres
            clear HRF HRW
            go_wp2_with (first | (go_at_call 11; (with_reducible refine (bnum_at 1 HS.out.bs H1.out).mono ?_); rintro e we ⟨rfl, hr, hg⟩; have n_ := Aside0.mk (HS.out.called hr hg); clear hr hg; clear HS; have HS := n_; clear n_) | ((with_reducible refine gate_dst (N := 8) rfl ?_); refine box_event ?hg (N := 8) ?hd (cs := #[.int .i64 0, .int .i64 0, .string ⟨#[]⟩, .string ⟨#[]⟩, .string ⟨#[]⟩, .int .i64 0, .int .i64 0, .int .i64 0]) (t := 70) ?hr ?_; (case hd => rfl); (case hg => rfl); (case hr => first | (go_simp; done) | (go_simp; rfl)); intro b8 hb8 wf hk8 hbl; have HK8 := Aside0.mk (show Blk wf b8 70 (entC entZ) from hk8); have HBL := Aside0.mk hbl; have HQ8 := Aside0.mk hb8; clear hb8 hk8 hbl) | ((with_reducible refine gate_store (t := 70) (p := 8) (v := .tmp 39) rfl ?_); refine blk_store rfl 70 (.tmp 8) (.tmp 39) rfl (cs' := entC ⟨conZ 5, 0, 0, 0⟩) infoE rfl rfl (entC_one _) HK8.out rfl ?_; intro wg hb4 hg4 hz4; have HE : Aside0 (RES W0 w wg g full L1 _ (.slice (some ⟨gb, 0, none⟩) n cap) _ b8 ⟨conZ 5, 0, 0, 0⟩) := ⟨by have h9 := HQ8.out; subst h9; exact HS.out.res (HBL.out.grown hg4 HBL.out.size (fun k hk => by cases hk; exact Nat.le_refl _)) hb4⟩; clear hb4 hg4 hz4 HBL HQ8 HK8) | (go_at_call 11; (with_reducible refine (bnum_at 8 HE.out.bs H2.out).mono ?_); rintro e wh ⟨rfl, hr, hg⟩; have n_ := Aside0.mk (HE.out.called hr hg); clear hr hg; clear HE; have HE := n_; clear n_) | ((with_reducible refine gate_store (t := 2) (p := 64) (v := .tmp 62) rfl ?_); refine cell_store rfl 2 (.tmp 64) (.tmp 62) rfl oiI64 (q := 1) rfl rfl rfl HE.out.k8 (by simp [entC]) ?_; intro wf hb8 hg8 hz8; have n_ := Aside0.mk (HE.out.put8 (E2 := ⟨⟨5, wrap64 N, ⟨#[]⟩, ⟨#[]⟩, ⟨#[]⟩⟩, 0, 0, 0⟩) hb8 hg8); clear hb8 hg8 hz8; clear HE; have HE := n_; clear n_) | ((with_reducible refine gate_dst (N := 91) rfl ?_); refine cell_load rfl 4 (.tmp 90) rfl Try.underlying4 rfl rfl (bs_bad HE.out.bs) ?_))
            go_ret2
            exact ⟨_, rfl, Kd.R_nil _ _ _ _ _, HE.out.bs, HE.out.gr⟩
          | false =>
            rw [if_neg (by decide), if_neg (by decide)] at HRW
            have HKX : Aside0 (kindIn (⟨5, N, ⟨#[]⟩, 0, 0, 0⟩ : SR) ∧ ((⟨5, N, ⟨#[]⟩, 0, 0, 0⟩ : SR) : SR).text.size ≤ 65535) := ⟨by
              have h1 := oneF_kind (l := l) (bad := b) (by rw [HO.out])
              have h2 := oneF_text l b (bs_u8 HI.out.2.1.bs)
              rw [HO.out] at h1 h2
              exact ⟨h1, h2⟩⟩
            go_wp2_with (first | (go_at_call 11; (with_reducible refine (bnum_at 1 HS.out.bs H1.out).mono ?_); rintro e we ⟨rfl, hr, hg⟩; have n_ := Aside0.mk (HS.out.called hr hg); clear hr hg; clear HS; have HS := n_; clear n_) | ((with_reducible refine gate_dst (N := 8) rfl ?_); refine box_event ?hg (N := 8) ?hd (cs := #[.int .i64 0, .int .i64 0, .string ⟨#[]⟩, .string ⟨#[]⟩, .string ⟨#[]⟩, .int .i64 0, .int .i64 0, .int .i64 0]) (t := 70) ?hr ?_; (case hd => rfl); (case hg => rfl); (case hr => first | (go_simp; done) | (go_simp; rfl)); intro b8 hb8 wf hk8 hbl; have HK8 := Aside0.mk (show Blk wf b8 70 (entC entZ) from hk8); have HBL := Aside0.mk hbl; have HQ8 := Aside0.mk hb8; clear hb8 hk8 hbl) | ((with_reducible refine gate_store (t := 70) (p := 8) (v := .tmp 39) rfl ?_); refine blk_store rfl 70 (.tmp 8) (.tmp 39) rfl (cs' := entC ⟨conZ 5, 0, 0, 0⟩) infoE rfl rfl (entC_one _) HK8.out rfl ?_; intro wg hb4 hg4 hz4; have HE : Aside0 (RES W0 w wg g full L1 _ (.slice (some ⟨gb, 0, none⟩) n cap) _ b8 ⟨conZ 5, 0, 0, 0⟩) := ⟨by have h9 := HQ8.out; subst h9; exact HS.out.res (HBL.out.grown hg4 HBL.out.size (fun k hk => by cases hk; exact Nat.le_refl _)) hb4⟩; clear hb4 hg4 hz4 HBL HQ8 HK8) | (go_at_call 11; (with_reducible refine (bnum_at 8 HE.out.bs H2.out).mono ?_); rintro e wh ⟨rfl, hr, hg⟩; have n_ := Aside0.mk (HE.out.called hr hg); clear hr hg; clear HE; have HE := n_; clear n_) | ((with_reducible refine gate_store (t := 2) (p := 64) (v := .tmp 62) rfl ?_); refine cell_store rfl 2 (.tmp 64) (.tmp 62) rfl oiI64 (q := 1) rfl rfl rfl HE.out.k8 (by simp [entC]) ?_; intro wf hb8 hg8 hz8; have n_ := Aside0.mk (HE.out.put8 (E2 := ⟨⟨5, wrap64 N, ⟨#[]⟩, ⟨#[]⟩, ⟨#[]⟩⟩, 0, 0, 0⟩) hb8 hg8); clear hb8 hg8 hz8; clear HE; have HE := n_; clear n_) | ((with_reducible refine gate_dst (N := 91) rfl ?_); refine cell_load rfl 4 (.tmp 90) rfl Try.underlying4 rfl rfl (bs_bad HE.out.bs) ?_) | ((with_reducible refine gate_dst (N := 96) rfl ?_); refine blk_load (cs := entC (⟨⟨5, wrap64 N, ⟨#[]⟩, ⟨#[]⟩, ⟨#[]⟩⟩, 0, 0, 0⟩)) rfl 70 (.tmp 8) rfl Try.underlying70 rfl infoE rfl HE.out.k8 ?_) | ((with_reducible refine gate_store (t := 70) (p := 97) (v := .tmp 96) rfl ?_); refine storeE ?a1x5 ?a2x5 (.tmp 97) (.tmp 96) ?a3x5 (gb := gb) (o' := i * 8) i (⟨⟨5, wrap64 N, ⟨#[]⟩, ⟨#[]⟩, ⟨#[]⟩⟩, 0, 0, 0⟩) ?a4x5 ?a5x5 ?a6x5 HE.out.bds.row hlt ?a9x5; (case a1x5 => rfl); (case a2x5 => rfl); (case a3x5 => rfl); (case a5x5 => rfl); (case a4x5 => rfl); (case a6x5 => rfl); intro wi h62 hg62; have HS2 := Aside0.mk (HE.out.putrow h62 hg62 HGB.out); clear h62 hg62 HE HS))
            go_roundw
            case rel =>
              refine ⟨i + 1, acc ++ [(⟨5, N, ⟨#[]⟩, 0, 0, 0⟩ : SR)], L2, false, by omega, by omega, by go_num, ⟨by rw [List.length_append, HI.out.1]; simp; omega, ?_, ?_, rfl, fun y hy => ?_⟩⟩
              · have h3 := HS2.out
                rw [← HEE.out, ← List.map_set, set_mid (rawZ 0 :: acc) (n - i) (rawZ 0) (⟨5, N, ⟨#[]⟩, 0, 0, 0⟩ : SR) i (by rw [List.length_cons, HI.out.1]; omega) (by omega)] at h3
                exact h3
              · rw [HI.out.2.2.1, HRW.out]; simp
              · rcases List.mem_append.1 hy with h | h
                · exact HI.out.2.2.2.2 y h
                · simp at h; subst h; exact HKX.out
            case measure => simp [intOf]; omega
      by_cases k7 : K = 7
      · subst k7
        have hu1 := hu
        rcases h2 : numF L1 B1 2 with ⟨N, L2, B2⟩
        have H2 := Aside0.mk h2
        have hN := numF_in 2 hu1 h2
        have hu2 := numF_u8 hu1 h2
        have wrN : IntKind.i64.wrap N = N := IntWalk.i64_in _ (by have := hN; omega)
        have wxN : wrap64 N = N := wrap64_in _ (by have := hN; omega)
        · skip
          have ho : oneF l b = ((⟨7, 0, ⟨#[]⟩, N, 0, 0⟩ : SR), true, L2, B2) := by unfold oneF; simp [h1, h2]
          have HO := Aside0.mk ho
          have HRW : Aside0 (rawsF (n - i) l b = if B2 = true then (11, [], L2, B2) else if true = false then (12, [], L2, B2) else ((rawsF (n - (i + 1)) L2 B2).1, (⟨7, 0, ⟨#[]⟩, N, 0, 0⟩ : SR) :: (rawsF (n - (i + 1)) L2 B2).2.1, (rawsF (n - (i + 1)) L2 B2).2.2)) := ⟨by
            rw [show n - i = (n - (i + 1)) + 1 by omega]
            conv => lhs; unfold rawsF
            rw [ho]⟩
          have HEE : Aside0 (entOf (⟨7, 0, ⟨#[]⟩, N, 0, 0⟩ : SR) = ⟨⟨7, 0, ⟨#[]⟩, ⟨#[]⟩, ⟨#[]⟩⟩, N, 0, 0⟩) := ⟨by first | rfl | simp [entOf, conZ, rawZ, w32mod]⟩
          clear ho h2
          cases B2 with
          | true =>
            have hres : res = (11, [], L2, true) := by
              rw [HRF.out, HI.out.2.2.1, HRW.out]; simp
            subst hres
            clear HRF HRW
            go_wp2_with (first | (go_at_call 11; (with_reducible refine (bnum_at 1 HS.out.bs H1.out).mono ?_); rintro e we ⟨rfl, hr, hg⟩; have n_ := Aside0.mk (HS.out.called hr hg); clear hr hg; clear HS; have HS := n_; clear n_) | ((with_reducible refine gate_dst (N := 8) rfl ?_); refine box_event ?hg (N := 8) ?hd (cs := #[.int .i64 0, .int .i64 0, .string ⟨#[]⟩, .string ⟨#[]⟩, .string ⟨#[]⟩, .int .i64 0, .int .i64 0, .int .i64 0]) (t := 70) ?hr ?_; (case hd => rfl); (case hg => rfl); (case hr => first | (go_simp; done) | (go_simp; rfl)); intro b8 hb8 wf hk8 hbl; have HK8 := Aside0.mk (show Blk wf b8 70 (entC entZ) from hk8); have HBL := Aside0.mk hbl; have HQ8 := Aside0.mk hb8; clear hb8 hk8 hbl) | ((with_reducible refine gate_store (t := 70) (p := 8) (v := .tmp 39) rfl ?_); refine blk_store rfl 70 (.tmp 8) (.tmp 39) rfl (cs' := entC ⟨conZ 7, 0, 0, 0⟩) infoE rfl rfl (entC_one _) HK8.out rfl ?_; intro wg hb4 hg4 hz4; have HE : Aside0 (RES W0 w wg g full L1 _ (.slice (some ⟨gb, 0, none⟩) n cap) _ b8 ⟨conZ 7, 0, 0, 0⟩) := ⟨by have h9 := HQ8.out; subst h9; exact HS.out.res (HBL.out.grown hg4 HBL.out.size (fun k hk => by cases hk; exact Nat.le_refl _)) hb4⟩; clear hb4 hg4 hz4 HBL HQ8 HK8) | (go_at_call 11; (with_reducible refine (bnum_at 2 HE.out.bs H2.out).mono ?_); rintro e wh ⟨rfl, hr, hg⟩; have n_ := Aside0.mk (HE.out.called hr hg); clear hr hg; clear HE; have HE := n_; clear n_) | ((with_reducible refine gate_store (t := 3) (p := 71) (v := .tmp 70) rfl ?_); refine cell_store rfl 3 (.tmp 71) (.tmp 70) rfl oiInt (q := 5) rfl rfl rfl HE.out.k8 (by simp [entC]) ?_; intro wf hb8 hg8 hz8; have n_ := Aside0.mk (HE.out.put8 (E2 := ⟨⟨7, 0, ⟨#[]⟩, ⟨#[]⟩, ⟨#[]⟩⟩, N, 0, 0⟩) hb8 hg8); clear hb8 hg8 hz8; clear HE; have HE := n_; clear n_) | ((with_reducible refine gate_dst (N := 91) rfl ?_); refine cell_load rfl 4 (.tmp 90) rfl Try.underlying4 rfl rfl (bs_bad HE.out.bs) ?_))
            go_ret2
            exact ⟨_, rfl, Kd.R_nil _ _ _ _ _, HE.out.bs, HE.out.gr⟩
          | false =>
            rw [if_neg (by decide), if_neg (by decide)] at HRW
            have HKX : Aside0 (kindIn (⟨7, 0, ⟨#[]⟩, N, 0, 0⟩ : SR) ∧ ((⟨7, 0, ⟨#[]⟩, N, 0, 0⟩ : SR) : SR).text.size ≤ 65535) := ⟨by
              have h1 := oneF_kind (l := l) (bad := b) (by rw [HO.out])
              have h2 := oneF_text l b (bs_u8 HI.out.2.1.bs)
              rw [HO.out] at h1 h2
              exact ⟨h1, h2⟩⟩
            go_wp2_with (first | (go_at_call 11; (with_reducible refine (bnum_at 1 HS.out.bs H1.out).mono ?_); rintro e we ⟨rfl, hr, hg⟩; have n_ := Aside0.mk (HS.out.called hr hg); clear hr hg; clear HS; have HS := n_; clear n_) | ((with_reducible refine gate_dst (N := 8) rfl ?_); refine box_event ?hg (N := 8) ?hd (cs := #[.int .i64 0, .int .i64 0, .string ⟨#[]⟩, .string ⟨#[]⟩, .string ⟨#[]⟩, .int .i64 0, .int .i64 0, .int .i64 0]) (t := 70) ?hr ?_; (case hd => rfl); (case hg => rfl); (case hr => first | (go_simp; done) | (go_simp; rfl)); intro b8 hb8 wf hk8 hbl; have HK8 := Aside0.mk (show Blk wf b8 70 (entC entZ) from hk8); have HBL := Aside0.mk hbl; have HQ8 := Aside0.mk hb8; clear hb8 hk8 hbl) | ((with_reducible refine gate_store (t := 70) (p := 8) (v := .tmp 39) rfl ?_); refine blk_store rfl 70 (.tmp 8) (.tmp 39) rfl (cs' := entC ⟨conZ 7, 0, 0, 0⟩) infoE rfl rfl (entC_one _) HK8.out rfl ?_; intro wg hb4 hg4 hz4; have HE : Aside0 (RES W0 w wg g full L1 _ (.slice (some ⟨gb, 0, none⟩) n cap) _ b8 ⟨conZ 7, 0, 0, 0⟩) := ⟨by have h9 := HQ8.out; subst h9; exact HS.out.res (HBL.out.grown hg4 HBL.out.size (fun k hk => by cases hk; exact Nat.le_refl _)) hb4⟩; clear hb4 hg4 hz4 HBL HQ8 HK8) | (go_at_call 11; (with_reducible refine (bnum_at 2 HE.out.bs H2.out).mono ?_); rintro e wh ⟨rfl, hr, hg⟩; have n_ := Aside0.mk (HE.out.called hr hg); clear hr hg; clear HE; have HE := n_; clear n_) | ((with_reducible refine gate_store (t := 3) (p := 71) (v := .tmp 70) rfl ?_); refine cell_store rfl 3 (.tmp 71) (.tmp 70) rfl oiInt (q := 5) rfl rfl rfl HE.out.k8 (by simp [entC]) ?_; intro wf hb8 hg8 hz8; have n_ := Aside0.mk (HE.out.put8 (E2 := ⟨⟨7, 0, ⟨#[]⟩, ⟨#[]⟩, ⟨#[]⟩⟩, N, 0, 0⟩) hb8 hg8); clear hb8 hg8 hz8; clear HE; have HE := n_; clear n_) | ((with_reducible refine gate_dst (N := 91) rfl ?_); refine cell_load rfl 4 (.tmp 90) rfl Try.underlying4 rfl rfl (bs_bad HE.out.bs) ?_) | ((with_reducible refine gate_dst (N := 96) rfl ?_); refine blk_load (cs := entC (⟨⟨7, 0, ⟨#[]⟩, ⟨#[]⟩, ⟨#[]⟩⟩, N, 0, 0⟩)) rfl 70 (.tmp 8) rfl Try.underlying70 rfl infoE rfl HE.out.k8 ?_) | ((with_reducible refine gate_store (t := 70) (p := 97) (v := .tmp 96) rfl ?_); refine storeE ?a1x7 ?a2x7 (.tmp 97) (.tmp 96) ?a3x7 (gb := gb) (o' := i * 8) i (⟨⟨7, 0, ⟨#[]⟩, ⟨#[]⟩, ⟨#[]⟩⟩, N, 0, 0⟩) ?a4x7 ?a5x7 ?a6x7 HE.out.bds.row hlt ?a9x7; (case a1x7 => rfl); (case a2x7 => rfl); (case a3x7 => rfl); (case a5x7 => rfl); (case a4x7 => rfl); (case a6x7 => rfl); intro wi h62 hg62; have HS2 := Aside0.mk (HE.out.putrow h62 hg62 HGB.out); clear h62 hg62 HE HS))
            go_roundw
            case rel =>
              refine ⟨i + 1, acc ++ [(⟨7, 0, ⟨#[]⟩, N, 0, 0⟩ : SR)], L2, false, by omega, by omega, by go_num, ⟨by rw [List.length_append, HI.out.1]; simp; omega, ?_, ?_, rfl, fun y hy => ?_⟩⟩
              · have h3 := HS2.out
                rw [← HEE.out, ← List.map_set, set_mid (rawZ 0 :: acc) (n - i) (rawZ 0) (⟨7, 0, ⟨#[]⟩, N, 0, 0⟩ : SR) i (by rw [List.length_cons, HI.out.1]; omega) (by omega)] at h3
                exact h3
              · rw [HI.out.2.2.1, HRW.out]; simp
              · rcases List.mem_append.1 hy with h | h
                · exact HI.out.2.2.2.2 y h
                · simp at h; subst h; exact HKX.out
            case measure => simp [intOf]; omega
      by_cases k8 : K = 8
      · subst k8
        have hu1 := hu
        rcases h2 : numF L1 B1 2 with ⟨N, L2, B2⟩
        have H2 := Aside0.mk h2
        have hN := numF_in 2 hu1 h2
        have hu2 := numF_u8 hu1 h2
        have wrN : IntKind.i64.wrap N = N := IntWalk.i64_in _ (by have := hN; omega)
        have wxN : wrap64 N = N := wrap64_in _ (by have := hN; omega)
        · skip
          have ho : oneF l b = ((⟨8, 0, ⟨#[]⟩, N, 0, 0⟩ : SR), true, L2, B2) := by unfold oneF; simp [h1, h2]
          have HO := Aside0.mk ho
          have HRW : Aside0 (rawsF (n - i) l b = if B2 = true then (11, [], L2, B2) else if true = false then (12, [], L2, B2) else ((rawsF (n - (i + 1)) L2 B2).1, (⟨8, 0, ⟨#[]⟩, N, 0, 0⟩ : SR) :: (rawsF (n - (i + 1)) L2 B2).2.1, (rawsF (n - (i + 1)) L2 B2).2.2)) := ⟨by
            rw [show n - i = (n - (i + 1)) + 1 by omega]
            conv => lhs; unfold rawsF
            rw [ho]⟩
          have HEE : Aside0 (entOf (⟨8, 0, ⟨#[]⟩, N, 0, 0⟩ : SR) = ⟨⟨8, 0, ⟨#[]⟩, ⟨#[]⟩, ⟨#[]⟩⟩, N, 0, 0⟩) := ⟨by first | rfl | simp [entOf, conZ, rawZ, w32mod]⟩
          clear ho h2
          cases B2 with
          | true =>
            have hres : res = (11, [], L2, true) := by
              rw [HRF.out, HI.out.2.2.1, HRW.out]; simp
            subst hres
            clear HRF HRW
            go_wp2_with (first | (go_at_call 11; (with_reducible refine (bnum_at 1 HS.out.bs H1.out).mono ?_); rintro e we ⟨rfl, hr, hg⟩; have n_ := Aside0.mk (HS.out.called hr hg); clear hr hg; clear HS; have HS := n_; clear n_) | ((with_reducible refine gate_dst (N := 8) rfl ?_); refine box_event ?hg (N := 8) ?hd (cs := #[.int .i64 0, .int .i64 0, .string ⟨#[]⟩, .string ⟨#[]⟩, .string ⟨#[]⟩, .int .i64 0, .int .i64 0, .int .i64 0]) (t := 70) ?hr ?_; (case hd => rfl); (case hg => rfl); (case hr => first | (go_simp; done) | (go_simp; rfl)); intro b8 hb8 wf hk8 hbl; have HK8 := Aside0.mk (show Blk wf b8 70 (entC entZ) from hk8); have HBL := Aside0.mk hbl; have HQ8 := Aside0.mk hb8; clear hb8 hk8 hbl) | ((with_reducible refine gate_store (t := 70) (p := 8) (v := .tmp 39) rfl ?_); refine blk_store rfl 70 (.tmp 8) (.tmp 39) rfl (cs' := entC ⟨conZ 8, 0, 0, 0⟩) infoE rfl rfl (entC_one _) HK8.out rfl ?_; intro wg hb4 hg4 hz4; have HE : Aside0 (RES W0 w wg g full L1 _ (.slice (some ⟨gb, 0, none⟩) n cap) _ b8 ⟨conZ 8, 0, 0, 0⟩) := ⟨by have h9 := HQ8.out; subst h9; exact HS.out.res (HBL.out.grown hg4 HBL.out.size (fun k hk => by cases hk; exact Nat.le_refl _)) hb4⟩; clear hb4 hg4 hz4 HBL HQ8 HK8) | (go_at_call 11; (with_reducible refine (bnum_at 2 HE.out.bs H2.out).mono ?_); rintro e wh ⟨rfl, hr, hg⟩; have n_ := Aside0.mk (HE.out.called hr hg); clear hr hg; clear HE; have HE := n_; clear n_) | ((with_reducible refine gate_store (t := 3) (p := 71) (v := .tmp 70) rfl ?_); refine cell_store rfl 3 (.tmp 71) (.tmp 70) rfl oiInt (q := 5) rfl rfl rfl HE.out.k8 (by simp [entC]) ?_; intro wf hb8 hg8 hz8; have n_ := Aside0.mk (HE.out.put8 (E2 := ⟨⟨8, 0, ⟨#[]⟩, ⟨#[]⟩, ⟨#[]⟩⟩, N, 0, 0⟩) hb8 hg8); clear hb8 hg8 hz8; clear HE; have HE := n_; clear n_) | ((with_reducible refine gate_dst (N := 91) rfl ?_); refine cell_load rfl 4 (.tmp 90) rfl Try.underlying4 rfl rfl (bs_bad HE.out.bs) ?_))
            go_ret2
            exact ⟨_, rfl, Kd.R_nil _ _ _ _ _, HE.out.bs, HE.out.gr⟩
          | false =>
            rw [if_neg (by decide), if_neg (by decide)] at HRW
            have HKX : Aside0 (kindIn (⟨8, 0, ⟨#[]⟩, N, 0, 0⟩ : SR) ∧ ((⟨8, 0, ⟨#[]⟩, N, 0, 0⟩ : SR) : SR).text.size ≤ 65535) := ⟨by
              have h1 := oneF_kind (l := l) (bad := b) (by rw [HO.out])
              have h2 := oneF_text l b (bs_u8 HI.out.2.1.bs)
              rw [HO.out] at h1 h2
              exact ⟨h1, h2⟩⟩
            go_wp2_with (first | (go_at_call 11; (with_reducible refine (bnum_at 1 HS.out.bs H1.out).mono ?_); rintro e we ⟨rfl, hr, hg⟩; have n_ := Aside0.mk (HS.out.called hr hg); clear hr hg; clear HS; have HS := n_; clear n_) | ((with_reducible refine gate_dst (N := 8) rfl ?_); refine box_event ?hg (N := 8) ?hd (cs := #[.int .i64 0, .int .i64 0, .string ⟨#[]⟩, .string ⟨#[]⟩, .string ⟨#[]⟩, .int .i64 0, .int .i64 0, .int .i64 0]) (t := 70) ?hr ?_; (case hd => rfl); (case hg => rfl); (case hr => first | (go_simp; done) | (go_simp; rfl)); intro b8 hb8 wf hk8 hbl; have HK8 := Aside0.mk (show Blk wf b8 70 (entC entZ) from hk8); have HBL := Aside0.mk hbl; have HQ8 := Aside0.mk hb8; clear hb8 hk8 hbl) | ((with_reducible refine gate_store (t := 70) (p := 8) (v := .tmp 39) rfl ?_); refine blk_store rfl 70 (.tmp 8) (.tmp 39) rfl (cs' := entC ⟨conZ 8, 0, 0, 0⟩) infoE rfl rfl (entC_one _) HK8.out rfl ?_; intro wg hb4 hg4 hz4; have HE : Aside0 (RES W0 w wg g full L1 _ (.slice (some ⟨gb, 0, none⟩) n cap) _ b8 ⟨conZ 8, 0, 0, 0⟩) := ⟨by have h9 := HQ8.out; subst h9; exact HS.out.res (HBL.out.grown hg4 HBL.out.size (fun k hk => by cases hk; exact Nat.le_refl _)) hb4⟩; clear hb4 hg4 hz4 HBL HQ8 HK8) | (go_at_call 11; (with_reducible refine (bnum_at 2 HE.out.bs H2.out).mono ?_); rintro e wh ⟨rfl, hr, hg⟩; have n_ := Aside0.mk (HE.out.called hr hg); clear hr hg; clear HE; have HE := n_; clear n_) | ((with_reducible refine gate_store (t := 3) (p := 71) (v := .tmp 70) rfl ?_); refine cell_store rfl 3 (.tmp 71) (.tmp 70) rfl oiInt (q := 5) rfl rfl rfl HE.out.k8 (by simp [entC]) ?_; intro wf hb8 hg8 hz8; have n_ := Aside0.mk (HE.out.put8 (E2 := ⟨⟨8, 0, ⟨#[]⟩, ⟨#[]⟩, ⟨#[]⟩⟩, N, 0, 0⟩) hb8 hg8); clear hb8 hg8 hz8; clear HE; have HE := n_; clear n_) | ((with_reducible refine gate_dst (N := 91) rfl ?_); refine cell_load rfl 4 (.tmp 90) rfl Try.underlying4 rfl rfl (bs_bad HE.out.bs) ?_) | ((with_reducible refine gate_dst (N := 96) rfl ?_); refine blk_load (cs := entC (⟨⟨8, 0, ⟨#[]⟩, ⟨#[]⟩, ⟨#[]⟩⟩, N, 0, 0⟩)) rfl 70 (.tmp 8) rfl Try.underlying70 rfl infoE rfl HE.out.k8 ?_) | ((with_reducible refine gate_store (t := 70) (p := 97) (v := .tmp 96) rfl ?_); refine storeE ?a1x8 ?a2x8 (.tmp 97) (.tmp 96) ?a3x8 (gb := gb) (o' := i * 8) i (⟨⟨8, 0, ⟨#[]⟩, ⟨#[]⟩, ⟨#[]⟩⟩, N, 0, 0⟩) ?a4x8 ?a5x8 ?a6x8 HE.out.bds.row hlt ?a9x8; (case a1x8 => rfl); (case a2x8 => rfl); (case a3x8 => rfl); (case a5x8 => rfl); (case a4x8 => rfl); (case a6x8 => rfl); intro wi h62 hg62; have HS2 := Aside0.mk (HE.out.putrow h62 hg62 HGB.out); clear h62 hg62 HE HS))
            go_roundw
            case rel =>
              refine ⟨i + 1, acc ++ [(⟨8, 0, ⟨#[]⟩, N, 0, 0⟩ : SR)], L2, false, by omega, by omega, by go_num, ⟨by rw [List.length_append, HI.out.1]; simp; omega, ?_, ?_, rfl, fun y hy => ?_⟩⟩
              · have h3 := HS2.out
                rw [← HEE.out, ← List.map_set, set_mid (rawZ 0 :: acc) (n - i) (rawZ 0) (⟨8, 0, ⟨#[]⟩, N, 0, 0⟩ : SR) i (by rw [List.length_cons, HI.out.1]; omega) (by omega)] at h3
                exact h3
              · rw [HI.out.2.2.1, HRW.out]; simp
              · rcases List.mem_append.1 hy with h | h
                · exact HI.out.2.2.2.2 y h
                · simp at h; subst h; exact HKX.out
            case measure => simp [intOf]; omega
      by_cases k9 : K = 9
      · subst k9
        have hu1 := hu
        rcases h2 : numF L1 B1 2 with ⟨N, L2, B2⟩
        have H2 := Aside0.mk h2
        have hN := numF_in 2 hu1 h2
        have hu2 := numF_u8 hu1 h2
        rcases h3 : numF L2 B2 2 with ⟨M, L3, B3⟩
        have H3 := Aside0.mk h3
        have hM := numF_in 2 hu2 h3
        have hu3 := numF_u8 hu2 h3
        rcases h4 : numF L3 B3 2 with ⟨O, L4, B4⟩
        have H4 := Aside0.mk h4
        have hO := numF_in 2 hu3 h4
        have hu4 := numF_u8 hu3 h4
        have wrN : IntKind.i64.wrap N = N := IntWalk.i64_in _ (by have := hN; omega)
        have wxN : wrap64 N = N := wrap64_in _ (by have := hN; omega)
        have wrM : IntKind.i64.wrap M = M := IntWalk.i64_in _ (by have := hM; omega)
        have wxM : wrap64 M = M := wrap64_in _ (by have := hM; omega)
        have wrO : IntKind.i64.wrap O = O := IntWalk.i64_in _ (by have := hO; omega)
        have wxO : wrap64 O = O := wrap64_in _ (by have := hO; omega)
        · skip
          have ho : oneF l b = ((⟨9, 0, ⟨#[]⟩, N, M, O⟩ : SR), true, L4, B4) := by unfold oneF; simp [h1, h2, h3, h4]
          have HO := Aside0.mk ho
          have HRW : Aside0 (rawsF (n - i) l b = if B4 = true then (11, [], L4, B4) else if true = false then (12, [], L4, B4) else ((rawsF (n - (i + 1)) L4 B4).1, (⟨9, 0, ⟨#[]⟩, N, M, O⟩ : SR) :: (rawsF (n - (i + 1)) L4 B4).2.1, (rawsF (n - (i + 1)) L4 B4).2.2)) := ⟨by
            rw [show n - i = (n - (i + 1)) + 1 by omega]
            conv => lhs; unfold rawsF
            rw [ho]⟩
          have HEE : Aside0 (entOf (⟨9, 0, ⟨#[]⟩, N, M, O⟩ : SR) = ⟨⟨9, 0, ⟨#[]⟩, ⟨#[]⟩, ⟨#[]⟩⟩, N, M, O⟩) := ⟨by first | rfl | simp [entOf, conZ, rawZ, w32mod]⟩
          clear ho h2 h3 h4
          cases B4 with
          | true =>
            have hres : res = (11, [], L4, true) := by
              rw [HRF.out, HI.out.2.2.1, HRW.out]; simp
            subst hres
            clear HRF HRW
            go_wp2_with (first | (go_at_call 11; (with_reducible refine (bnum_at 1 HS.out.bs H1.out).mono ?_); rintro e we ⟨rfl, hr, hg⟩; have n_ := Aside0.mk (HS.out.called hr hg); clear hr hg; clear HS; have HS := n_; clear n_) | ((with_reducible refine gate_dst (N := 8) rfl ?_); refine box_event ?hg (N := 8) ?hd (cs := #[.int .i64 0, .int .i64 0, .string ⟨#[]⟩, .string ⟨#[]⟩, .string ⟨#[]⟩, .int .i64 0, .int .i64 0, .int .i64 0]) (t := 70) ?hr ?_; (case hd => rfl); (case hg => rfl); (case hr => first | (go_simp; done) | (go_simp; rfl)); intro b8 hb8 wf hk8 hbl; have HK8 := Aside0.mk (show Blk wf b8 70 (entC entZ) from hk8); have HBL := Aside0.mk hbl; have HQ8 := Aside0.mk hb8; clear hb8 hk8 hbl) | ((with_reducible refine gate_store (t := 70) (p := 8) (v := .tmp 39) rfl ?_); refine blk_store rfl 70 (.tmp 8) (.tmp 39) rfl (cs' := entC ⟨conZ 9, 0, 0, 0⟩) infoE rfl rfl (entC_one _) HK8.out rfl ?_; intro wg hb4 hg4 hz4; have HE : Aside0 (RES W0 w wg g full L1 _ (.slice (some ⟨gb, 0, none⟩) n cap) _ b8 ⟨conZ 9, 0, 0, 0⟩) := ⟨by have h9 := HQ8.out; subst h9; exact HS.out.res (HBL.out.grown hg4 HBL.out.size (fun k hk => by cases hk; exact Nat.le_refl _)) hb4⟩; clear hb4 hg4 hz4 HBL HQ8 HK8) | (go_at_call 11; (with_reducible refine (bnum_at 2 HE.out.bs H2.out).mono ?_); rintro e wh ⟨rfl, hr, hg⟩; have n_ := Aside0.mk (HE.out.called hr hg); clear hr hg; clear HE; have HE := n_; clear n_) | ((with_reducible refine gate_store (t := 3) (p := 79) (v := .tmp 78) rfl ?_); refine cell_store rfl 3 (.tmp 79) (.tmp 78) rfl oiInt (q := 5) rfl rfl rfl HE.out.k8 (by simp [entC]) ?_; intro wf hb8 hg8 hz8; have n_ := Aside0.mk (HE.out.put8 (E2 := ⟨⟨9, 0, ⟨#[]⟩, ⟨#[]⟩, ⟨#[]⟩⟩, N, 0, 0⟩) hb8 hg8); clear hb8 hg8 hz8; clear HE; have HE := n_; clear n_) | (go_at_call 11; (with_reducible refine (bnum_at 2 HE.out.bs H3.out).mono ?_); rintro e wh ⟨rfl, hr, hg⟩; have n_ := Aside0.mk (HE.out.called hr hg); clear hr hg; clear HE; have HE := n_; clear n_) | ((with_reducible refine gate_store (t := 3) (p := 83) (v := .tmp 82) rfl ?_); refine cell_store rfl 3 (.tmp 83) (.tmp 82) rfl oiInt (q := 6) rfl rfl rfl HE.out.k8 (by simp [entC]) ?_; intro wf hb8 hg8 hz8; have n_ := Aside0.mk (HE.out.put8 (E2 := ⟨⟨9, 0, ⟨#[]⟩, ⟨#[]⟩, ⟨#[]⟩⟩, N, M, 0⟩) hb8 hg8); clear hb8 hg8 hz8; clear HE; have HE := n_; clear n_) | (go_at_call 11; (with_reducible refine (bnum_at 2 HE.out.bs H4.out).mono ?_); rintro e wh ⟨rfl, hr, hg⟩; have n_ := Aside0.mk (HE.out.called hr hg); clear hr hg; clear HE; have HE := n_; clear n_) | ((with_reducible refine gate_store (t := 3) (p := 87) (v := .tmp 86) rfl ?_); refine cell_store rfl 3 (.tmp 87) (.tmp 86) rfl oiInt (q := 7) rfl rfl rfl HE.out.k8 (by simp [entC]) ?_; intro wf hb8 hg8 hz8; have n_ := Aside0.mk (HE.out.put8 (E2 := ⟨⟨9, 0, ⟨#[]⟩, ⟨#[]⟩, ⟨#[]⟩⟩, N, M, O⟩) hb8 hg8); clear hb8 hg8 hz8; clear HE; have HE := n_; clear n_) | ((with_reducible refine gate_dst (N := 91) rfl ?_); refine cell_load rfl 4 (.tmp 90) rfl Try.underlying4 rfl rfl (bs_bad HE.out.bs) ?_))
            go_ret2
            exact ⟨_, rfl, Kd.R_nil _ _ _ _ _, HE.out.bs, HE.out.gr⟩
          | false =>
            rw [if_neg (by decide), if_neg (by decide)] at HRW
            have HKX : Aside0 (kindIn (⟨9, 0, ⟨#[]⟩, N, M, O⟩ : SR) ∧ ((⟨9, 0, ⟨#[]⟩, N, M, O⟩ : SR) : SR).text.size ≤ 65535) := ⟨by
              have h1 := oneF_kind (l := l) (bad := b) (by rw [HO.out])
              have h2 := oneF_text l b (bs_u8 HI.out.2.1.bs)
              rw [HO.out] at h1 h2
              exact ⟨h1, h2⟩⟩
            go_wp2_with (first | (go_at_call 11; (with_reducible refine (bnum_at 1 HS.out.bs H1.out).mono ?_); rintro e we ⟨rfl, hr, hg⟩; have n_ := Aside0.mk (HS.out.called hr hg); clear hr hg; clear HS; have HS := n_; clear n_) | ((with_reducible refine gate_dst (N := 8) rfl ?_); refine box_event ?hg (N := 8) ?hd (cs := #[.int .i64 0, .int .i64 0, .string ⟨#[]⟩, .string ⟨#[]⟩, .string ⟨#[]⟩, .int .i64 0, .int .i64 0, .int .i64 0]) (t := 70) ?hr ?_; (case hd => rfl); (case hg => rfl); (case hr => first | (go_simp; done) | (go_simp; rfl)); intro b8 hb8 wf hk8 hbl; have HK8 := Aside0.mk (show Blk wf b8 70 (entC entZ) from hk8); have HBL := Aside0.mk hbl; have HQ8 := Aside0.mk hb8; clear hb8 hk8 hbl) | ((with_reducible refine gate_store (t := 70) (p := 8) (v := .tmp 39) rfl ?_); refine blk_store rfl 70 (.tmp 8) (.tmp 39) rfl (cs' := entC ⟨conZ 9, 0, 0, 0⟩) infoE rfl rfl (entC_one _) HK8.out rfl ?_; intro wg hb4 hg4 hz4; have HE : Aside0 (RES W0 w wg g full L1 _ (.slice (some ⟨gb, 0, none⟩) n cap) _ b8 ⟨conZ 9, 0, 0, 0⟩) := ⟨by have h9 := HQ8.out; subst h9; exact HS.out.res (HBL.out.grown hg4 HBL.out.size (fun k hk => by cases hk; exact Nat.le_refl _)) hb4⟩; clear hb4 hg4 hz4 HBL HQ8 HK8) | (go_at_call 11; (with_reducible refine (bnum_at 2 HE.out.bs H2.out).mono ?_); rintro e wh ⟨rfl, hr, hg⟩; have n_ := Aside0.mk (HE.out.called hr hg); clear hr hg; clear HE; have HE := n_; clear n_) | ((with_reducible refine gate_store (t := 3) (p := 79) (v := .tmp 78) rfl ?_); refine cell_store rfl 3 (.tmp 79) (.tmp 78) rfl oiInt (q := 5) rfl rfl rfl HE.out.k8 (by simp [entC]) ?_; intro wf hb8 hg8 hz8; have n_ := Aside0.mk (HE.out.put8 (E2 := ⟨⟨9, 0, ⟨#[]⟩, ⟨#[]⟩, ⟨#[]⟩⟩, N, 0, 0⟩) hb8 hg8); clear hb8 hg8 hz8; clear HE; have HE := n_; clear n_) | (go_at_call 11; (with_reducible refine (bnum_at 2 HE.out.bs H3.out).mono ?_); rintro e wh ⟨rfl, hr, hg⟩; have n_ := Aside0.mk (HE.out.called hr hg); clear hr hg; clear HE; have HE := n_; clear n_) | ((with_reducible refine gate_store (t := 3) (p := 83) (v := .tmp 82) rfl ?_); refine cell_store rfl 3 (.tmp 83) (.tmp 82) rfl oiInt (q := 6) rfl rfl rfl HE.out.k8 (by simp [entC]) ?_; intro wf hb8 hg8 hz8; have n_ := Aside0.mk (HE.out.put8 (E2 := ⟨⟨9, 0, ⟨#[]⟩, ⟨#[]⟩, ⟨#[]⟩⟩, N, M, 0⟩) hb8 hg8); clear hb8 hg8 hz8; clear HE; have HE := n_; clear n_) | (go_at_call 11; (with_reducible refine (bnum_at 2 HE.out.bs H4.out).mono ?_); rintro e wh ⟨rfl, hr, hg⟩; have n_ := Aside0.mk (HE.out.called hr hg); clear hr hg; clear HE; have HE := n_; clear n_) | ((with_reducible refine gate_store (t := 3) (p := 87) (v := .tmp 86) rfl ?_); refine cell_store rfl 3 (.tmp 87) (.tmp 86) rfl oiInt (q := 7) rfl rfl rfl HE.out.k8 (by simp [entC]) ?_; intro wf hb8 hg8 hz8; have n_ := Aside0.mk (HE.out.put8 (E2 := ⟨⟨9, 0, ⟨#[]⟩, ⟨#[]⟩, ⟨#[]⟩⟩, N, M, O⟩) hb8 hg8); clear hb8 hg8 hz8; clear HE; have HE := n_; clear n_) | ((with_reducible refine gate_dst (N := 91) rfl ?_); refine cell_load rfl 4 (.tmp 90) rfl Try.underlying4 rfl rfl (bs_bad HE.out.bs) ?_) | ((with_reducible refine gate_dst (N := 96) rfl ?_); refine blk_load (cs := entC (⟨⟨9, 0, ⟨#[]⟩, ⟨#[]⟩, ⟨#[]⟩⟩, N, M, O⟩)) rfl 70 (.tmp 8) rfl Try.underlying70 rfl infoE rfl HE.out.k8 ?_) | ((with_reducible refine gate_store (t := 70) (p := 97) (v := .tmp 96) rfl ?_); refine storeE ?a1x9 ?a2x9 (.tmp 97) (.tmp 96) ?a3x9 (gb := gb) (o' := i * 8) i (⟨⟨9, 0, ⟨#[]⟩, ⟨#[]⟩, ⟨#[]⟩⟩, N, M, O⟩) ?a4x9 ?a5x9 ?a6x9 HE.out.bds.row hlt ?a9x9; (case a1x9 => rfl); (case a2x9 => rfl); (case a3x9 => rfl); (case a5x9 => rfl); (case a4x9 => rfl); (case a6x9 => rfl); intro wi h62 hg62; have HS2 := Aside0.mk (HE.out.putrow h62 hg62 HGB.out); clear h62 hg62 HE HS))
            go_roundw
            case rel =>
              refine ⟨i + 1, acc ++ [(⟨9, 0, ⟨#[]⟩, N, M, O⟩ : SR)], L4, false, by omega, by omega, by go_num, ⟨by rw [List.length_append, HI.out.1]; simp; omega, ?_, ?_, rfl, fun y hy => ?_⟩⟩
              · have h3 := HS2.out
                rw [← HEE.out, ← List.map_set, set_mid (rawZ 0 :: acc) (n - i) (rawZ 0) (⟨9, 0, ⟨#[]⟩, N, M, O⟩ : SR) i (by rw [List.length_cons, HI.out.1]; omega) (by omega)] at h3
                exact h3
              · rw [HI.out.2.2.1, HRW.out]; simp
              · rcases List.mem_append.1 hy with h | h
                · exact HI.out.2.2.2.2 y h
                · simp at h; subst h; exact HKX.out
            case measure => simp [intOf]; omega
      by_cases k10 : K = 10
      · subst k10
        have hu1 := hu
        rcases h2 : numF L1 B1 2 with ⟨N, L2, B2⟩
        have H2 := Aside0.mk h2
        have hN := numF_in 2 hu1 h2
        have hu2 := numF_u8 hu1 h2
        rcases h3 : numF L2 B2 2 with ⟨M, L3, B3⟩
        have H3 := Aside0.mk h3
        have hM := numF_in 2 hu2 h3
        have hu3 := numF_u8 hu2 h3
        rcases h4 : numF L3 B3 2 with ⟨O, L4, B4⟩
        have H4 := Aside0.mk h4
        have hO := numF_in 2 hu3 h4
        have hu4 := numF_u8 hu3 h4
        have wrN : IntKind.i64.wrap N = N := IntWalk.i64_in _ (by have := hN; omega)
        have wxN : wrap64 N = N := wrap64_in _ (by have := hN; omega)
        have wrM : IntKind.i64.wrap M = M := IntWalk.i64_in _ (by have := hM; omega)
        have wxM : wrap64 M = M := wrap64_in _ (by have := hM; omega)
        have wrO : IntKind.i64.wrap O = O := IntWalk.i64_in _ (by have := hO; omega)
        have wxO : wrap64 O = O := wrap64_in _ (by have := hO; omega)
        · skip
          have ho : oneF l b = ((⟨10, 0, ⟨#[]⟩, N, M, O⟩ : SR), true, L4, B4) := by unfold oneF; simp [h1, h2, h3, h4]
          have HO := Aside0.mk ho
          have HRW : Aside0 (rawsF (n - i) l b = if B4 = true then (11, [], L4, B4) else if true = false then (12, [], L4, B4) else ((rawsF (n - (i + 1)) L4 B4).1, (⟨10, 0, ⟨#[]⟩, N, M, O⟩ : SR) :: (rawsF (n - (i + 1)) L4 B4).2.1, (rawsF (n - (i + 1)) L4 B4).2.2)) := ⟨by
            rw [show n - i = (n - (i + 1)) + 1 by omega]
            conv => lhs; unfold rawsF
            rw [ho]⟩
          have HEE : Aside0 (entOf (⟨10, 0, ⟨#[]⟩, N, M, O⟩ : SR) = ⟨⟨10, 0, ⟨#[]⟩, ⟨#[]⟩, ⟨#[]⟩⟩, N, M, O⟩) := ⟨by first | rfl | simp [entOf, conZ, rawZ, w32mod]⟩
          clear ho h2 h3 h4
          cases B4 with
          | true =>
            have hres : res = (11, [], L4, true) := by
              rw [HRF.out, HI.out.2.2.1, HRW.out]; simp
            subst hres
            clear HRF HRW
            go_wp2_with (first | (go_at_call 11; (with_reducible refine (bnum_at 1 HS.out.bs H1.out).mono ?_); rintro e we ⟨rfl, hr, hg⟩; have n_ := Aside0.mk (HS.out.called hr hg); clear hr hg; clear HS; have HS := n_; clear n_) | ((with_reducible refine gate_dst (N := 8) rfl ?_); refine box_event ?hg (N := 8) ?hd (cs := #[.int .i64 0, .int .i64 0, .string ⟨#[]⟩, .string ⟨#[]⟩, .string ⟨#[]⟩, .int .i64 0, .int .i64 0, .int .i64 0]) (t := 70) ?hr ?_; (case hd => rfl); (case hg => rfl); (case hr => first | (go_simp; done) | (go_simp; rfl)); intro b8 hb8 wf hk8 hbl; have HK8 := Aside0.mk (show Blk wf b8 70 (entC entZ) from hk8); have HBL := Aside0.mk hbl; have HQ8 := Aside0.mk hb8; clear hb8 hk8 hbl) | ((with_reducible refine gate_store (t := 70) (p := 8) (v := .tmp 39) rfl ?_); refine blk_store rfl 70 (.tmp 8) (.tmp 39) rfl (cs' := entC ⟨conZ 10, 0, 0, 0⟩) infoE rfl rfl (entC_one _) HK8.out rfl ?_; intro wg hb4 hg4 hz4; have HE : Aside0 (RES W0 w wg g full L1 _ (.slice (some ⟨gb, 0, none⟩) n cap) _ b8 ⟨conZ 10, 0, 0, 0⟩) := ⟨by have h9 := HQ8.out; subst h9; exact HS.out.res (HBL.out.grown hg4 HBL.out.size (fun k hk => by cases hk; exact Nat.le_refl _)) hb4⟩; clear hb4 hg4 hz4 HBL HQ8 HK8) | (go_at_call 11; (with_reducible refine (bnum_at 2 HE.out.bs H2.out).mono ?_); rintro e wh ⟨rfl, hr, hg⟩; have n_ := Aside0.mk (HE.out.called hr hg); clear hr hg; clear HE; have HE := n_; clear n_) | ((with_reducible refine gate_store (t := 3) (p := 79) (v := .tmp 78) rfl ?_); refine cell_store rfl 3 (.tmp 79) (.tmp 78) rfl oiInt (q := 5) rfl rfl rfl HE.out.k8 (by simp [entC]) ?_; intro wf hb8 hg8 hz8; have n_ := Aside0.mk (HE.out.put8 (E2 := ⟨⟨10, 0, ⟨#[]⟩, ⟨#[]⟩, ⟨#[]⟩⟩, N, 0, 0⟩) hb8 hg8); clear hb8 hg8 hz8; clear HE; have HE := n_; clear n_) | (go_at_call 11; (with_reducible refine (bnum_at 2 HE.out.bs H3.out).mono ?_); rintro e wh ⟨rfl, hr, hg⟩; have n_ := Aside0.mk (HE.out.called hr hg); clear hr hg; clear HE; have HE := n_; clear n_) | ((with_reducible refine gate_store (t := 3) (p := 83) (v := .tmp 82) rfl ?_); refine cell_store rfl 3 (.tmp 83) (.tmp 82) rfl oiInt (q := 6) rfl rfl rfl HE.out.k8 (by simp [entC]) ?_; intro wf hb8 hg8 hz8; have n_ := Aside0.mk (HE.out.put8 (E2 := ⟨⟨10, 0, ⟨#[]⟩, ⟨#[]⟩, ⟨#[]⟩⟩, N, M, 0⟩) hb8 hg8); clear hb8 hg8 hz8; clear HE; have HE := n_; clear n_) | (go_at_call 11; (with_reducible refine (bnum_at 2 HE.out.bs H4.out).mono ?_); rintro e wh ⟨rfl, hr, hg⟩; have n_ := Aside0.mk (HE.out.called hr hg); clear hr hg; clear HE; have HE := n_; clear n_) | ((with_reducible refine gate_store (t := 3) (p := 87) (v := .tmp 86) rfl ?_); refine cell_store rfl 3 (.tmp 87) (.tmp 86) rfl oiInt (q := 7) rfl rfl rfl HE.out.k8 (by simp [entC]) ?_; intro wf hb8 hg8 hz8; have n_ := Aside0.mk (HE.out.put8 (E2 := ⟨⟨10, 0, ⟨#[]⟩, ⟨#[]⟩, ⟨#[]⟩⟩, N, M, O⟩) hb8 hg8); clear hb8 hg8 hz8; clear HE; have HE := n_; clear n_) | ((with_reducible refine gate_dst (N := 91) rfl ?_); refine cell_load rfl 4 (.tmp 90) rfl Try.underlying4 rfl rfl (bs_bad HE.out.bs) ?_))
            go_ret2
            exact ⟨_, rfl, Kd.R_nil _ _ _ _ _, HE.out.bs, HE.out.gr⟩
          | false =>
            rw [if_neg (by decide), if_neg (by decide)] at HRW
            have HKX : Aside0 (kindIn (⟨10, 0, ⟨#[]⟩, N, M, O⟩ : SR) ∧ ((⟨10, 0, ⟨#[]⟩, N, M, O⟩ : SR) : SR).text.size ≤ 65535) := ⟨by
              have h1 := oneF_kind (l := l) (bad := b) (by rw [HO.out])
              have h2 := oneF_text l b (bs_u8 HI.out.2.1.bs)
              rw [HO.out] at h1 h2
              exact ⟨h1, h2⟩⟩
            go_wp2_with (first | (go_at_call 11; (with_reducible refine (bnum_at 1 HS.out.bs H1.out).mono ?_); rintro e we ⟨rfl, hr, hg⟩; have n_ := Aside0.mk (HS.out.called hr hg); clear hr hg; clear HS; have HS := n_; clear n_) | ((with_reducible refine gate_dst (N := 8) rfl ?_); refine box_event ?hg (N := 8) ?hd (cs := #[.int .i64 0, .int .i64 0, .string ⟨#[]⟩, .string ⟨#[]⟩, .string ⟨#[]⟩, .int .i64 0, .int .i64 0, .int .i64 0]) (t := 70) ?hr ?_; (case hd => rfl); (case hg => rfl); (case hr => first | (go_simp; done) | (go_simp; rfl)); intro b8 hb8 wf hk8 hbl; have HK8 := Aside0.mk (show Blk wf b8 70 (entC entZ) from hk8); have HBL := Aside0.mk hbl; have HQ8 := Aside0.mk hb8; clear hb8 hk8 hbl) | ((with_reducible refine gate_store (t := 70) (p := 8) (v := .tmp 39) rfl ?_); refine blk_store rfl 70 (.tmp 8) (.tmp 39) rfl (cs' := entC ⟨conZ 10, 0, 0, 0⟩) infoE rfl rfl (entC_one _) HK8.out rfl ?_; intro wg hb4 hg4 hz4; have HE : Aside0 (RES W0 w wg g full L1 _ (.slice (some ⟨gb, 0, none⟩) n cap) _ b8 ⟨conZ 10, 0, 0, 0⟩) := ⟨by have h9 := HQ8.out; subst h9; exact HS.out.res (HBL.out.grown hg4 HBL.out.size (fun k hk => by cases hk; exact Nat.le_refl _)) hb4⟩; clear hb4 hg4 hz4 HBL HQ8 HK8) | (go_at_call 11; (with_reducible refine (bnum_at 2 HE.out.bs H2.out).mono ?_); rintro e wh ⟨rfl, hr, hg⟩; have n_ := Aside0.mk (HE.out.called hr hg); clear hr hg; clear HE; have HE := n_; clear n_) | ((with_reducible refine gate_store (t := 3) (p := 79) (v := .tmp 78) rfl ?_); refine cell_store rfl 3 (.tmp 79) (.tmp 78) rfl oiInt (q := 5) rfl rfl rfl HE.out.k8 (by simp [entC]) ?_; intro wf hb8 hg8 hz8; have n_ := Aside0.mk (HE.out.put8 (E2 := ⟨⟨10, 0, ⟨#[]⟩, ⟨#[]⟩, ⟨#[]⟩⟩, N, 0, 0⟩) hb8 hg8); clear hb8 hg8 hz8; clear HE; have HE := n_; clear n_) | (go_at_call 11; (with_reducible refine (bnum_at 2 HE.out.bs H3.out).mono ?_); rintro e wh ⟨rfl, hr, hg⟩; have n_ := Aside0.mk (HE.out.called hr hg); clear hr hg; clear HE; have HE := n_; clear n_) | ((with_reducible refine gate_store (t := 3) (p := 83) (v := .tmp 82) rfl ?_); refine cell_store rfl 3 (.tmp 83) (.tmp 82) rfl oiInt (q := 6) rfl rfl rfl HE.out.k8 (by simp [entC]) ?_; intro wf hb8 hg8 hz8; have n_ := Aside0.mk (HE.out.put8 (E2 := ⟨⟨10, 0, ⟨#[]⟩, ⟨#[]⟩, ⟨#[]⟩⟩, N, M, 0⟩) hb8 hg8); clear hb8 hg8 hz8; clear HE; have HE := n_; clear n_) | (go_at_call 11; (with_reducible refine (bnum_at 2 HE.out.bs H4.out).mono ?_); rintro e wh ⟨rfl, hr, hg⟩; have n_ := Aside0.mk (HE.out.called hr hg); clear hr hg; clear HE; have HE := n_; clear n_) | ((with_reducible refine gate_store (t := 3) (p := 87) (v := .tmp 86) rfl ?_); refine cell_store rfl 3 (.tmp 87) (.tmp 86) rfl oiInt (q := 7) rfl rfl rfl HE.out.k8 (by simp [entC]) ?_; intro wf hb8 hg8 hz8; have n_ := Aside0.mk (HE.out.put8 (E2 := ⟨⟨10, 0, ⟨#[]⟩, ⟨#[]⟩, ⟨#[]⟩⟩, N, M, O⟩) hb8 hg8); clear hb8 hg8 hz8; clear HE; have HE := n_; clear n_) | ((with_reducible refine gate_dst (N := 91) rfl ?_); refine cell_load rfl 4 (.tmp 90) rfl Try.underlying4 rfl rfl (bs_bad HE.out.bs) ?_) | ((with_reducible refine gate_dst (N := 96) rfl ?_); refine blk_load (cs := entC (⟨⟨10, 0, ⟨#[]⟩, ⟨#[]⟩, ⟨#[]⟩⟩, N, M, O⟩)) rfl 70 (.tmp 8) rfl Try.underlying70 rfl infoE rfl HE.out.k8 ?_) | ((with_reducible refine gate_store (t := 70) (p := 97) (v := .tmp 96) rfl ?_); refine storeE ?a1x10 ?a2x10 (.tmp 97) (.tmp 96) ?a3x10 (gb := gb) (o' := i * 8) i (⟨⟨10, 0, ⟨#[]⟩, ⟨#[]⟩, ⟨#[]⟩⟩, N, M, O⟩) ?a4x10 ?a5x10 ?a6x10 HE.out.bds.row hlt ?a9x10; (case a1x10 => rfl); (case a2x10 => rfl); (case a3x10 => rfl); (case a5x10 => rfl); (case a4x10 => rfl); (case a6x10 => rfl); intro wi h62 hg62; have HS2 := Aside0.mk (HE.out.putrow h62 hg62 HGB.out); clear h62 hg62 HE HS))
            go_roundw
            case rel =>
              refine ⟨i + 1, acc ++ [(⟨10, 0, ⟨#[]⟩, N, M, O⟩ : SR)], L4, false, by omega, by omega, by go_num, ⟨by rw [List.length_append, HI.out.1]; simp; omega, ?_, ?_, rfl, fun y hy => ?_⟩⟩
              · have h3 := HS2.out
                rw [← HEE.out, ← List.map_set, set_mid (rawZ 0 :: acc) (n - i) (rawZ 0) (⟨10, 0, ⟨#[]⟩, N, M, O⟩ : SR) i (by rw [List.length_cons, HI.out.1]; omega) (by omega)] at h3
                exact h3
              · rw [HI.out.2.2.1, HRW.out]; simp
              · rcases List.mem_append.1 hy with h | h
                · exact HI.out.2.2.2.2 y h
                · simp at h; subst h; exact HKX.out
            case measure => simp [intOf]; omega
      by_cases k11 : K = 11
      · subst k11
        have hu1 := hu
        rcases h2 : numF L1 B1 2 with ⟨N, L2, B2⟩
        have H2 := Aside0.mk h2
        have hN := numF_in 2 hu1 h2
        have hu2 := numF_u8 hu1 h2
        rcases h3 : numF L2 B2 2 with ⟨M, L3, B3⟩
        have H3 := Aside0.mk h3
        have hM := numF_in 2 hu2 h3
        have hu3 := numF_u8 hu2 h3
        rcases h4 : numF L3 B3 2 with ⟨O, L4, B4⟩
        have H4 := Aside0.mk h4
        have hO := numF_in 2 hu3 h4
        have hu4 := numF_u8 hu3 h4
        have wrN : IntKind.i64.wrap N = N := IntWalk.i64_in _ (by have := hN; omega)
        have wxN : wrap64 N = N := wrap64_in _ (by have := hN; omega)
        have wrM : IntKind.i64.wrap M = M := IntWalk.i64_in _ (by have := hM; omega)
        have wxM : wrap64 M = M := wrap64_in _ (by have := hM; omega)
        have wrO : IntKind.i64.wrap O = O := IntWalk.i64_in _ (by have := hO; omega)
        have wxO : wrap64 O = O := wrap64_in _ (by have := hO; omega)
        · skip
          have ho : oneF l b = ((⟨11, 0, ⟨#[]⟩, N, M, O⟩ : SR), true, L4, B4) := by unfold oneF; simp [h1, h2, h3, h4]
          have HO := Aside0.mk ho
          have HRW : Aside0 (rawsF (n - i) l b = if B4 = true then (11, [], L4, B4) else if true = false then (12, [], L4, B4) else ((rawsF (n - (i + 1)) L4 B4).1, (⟨11, 0, ⟨#[]⟩, N, M, O⟩ : SR) :: (rawsF (n - (i + 1)) L4 B4).2.1, (rawsF (n - (i + 1)) L4 B4).2.2)) := ⟨by
            rw [show n - i = (n - (i + 1)) + 1 by omega]
            conv => lhs; unfold rawsF
            rw [ho]⟩
          have HEE : Aside0 (entOf (⟨11, 0, ⟨#[]⟩, N, M, O⟩ : SR) = ⟨⟨11, 0, ⟨#[]⟩, ⟨#[]⟩, ⟨#[]⟩⟩, N, M, O⟩) := ⟨by first | rfl | simp [entOf, conZ, rawZ, w32mod]⟩
          clear ho h2 h3 h4
          cases B4 with
          | true =>
            have hres : res = (11, [], L4, true) := by
              rw [HRF.out, HI.out.2.2.1, HRW.out]; simp
            subst hres
            clear HRF HRW
            go_wp2_with (first | (go_at_call 11; (with_reducible refine (bnum_at 1 HS.out.bs H1.out).mono ?_); rintro e we ⟨rfl, hr, hg⟩; have n_ := Aside0.mk (HS.out.called hr hg); clear hr hg; clear HS; have HS := n_; clear n_) | ((with_reducible refine gate_dst (N := 8) rfl ?_); refine box_event ?hg (N := 8) ?hd (cs := #[.int .i64 0, .int .i64 0, .string ⟨#[]⟩, .string ⟨#[]⟩, .string ⟨#[]⟩, .int .i64 0, .int .i64 0, .int .i64 0]) (t := 70) ?hr ?_; (case hd => rfl); (case hg => rfl); (case hr => first | (go_simp; done) | (go_simp; rfl)); intro b8 hb8 wf hk8 hbl; have HK8 := Aside0.mk (show Blk wf b8 70 (entC entZ) from hk8); have HBL := Aside0.mk hbl; have HQ8 := Aside0.mk hb8; clear hb8 hk8 hbl) | ((with_reducible refine gate_store (t := 70) (p := 8) (v := .tmp 39) rfl ?_); refine blk_store rfl 70 (.tmp 8) (.tmp 39) rfl (cs' := entC ⟨conZ 11, 0, 0, 0⟩) infoE rfl rfl (entC_one _) HK8.out rfl ?_; intro wg hb4 hg4 hz4; have HE : Aside0 (RES W0 w wg g full L1 _ (.slice (some ⟨gb, 0, none⟩) n cap) _ b8 ⟨conZ 11, 0, 0, 0⟩) := ⟨by have h9 := HQ8.out; subst h9; exact HS.out.res (HBL.out.grown hg4 HBL.out.size (fun k hk => by cases hk; exact Nat.le_refl _)) hb4⟩; clear hb4 hg4 hz4 HBL HQ8 HK8) | (go_at_call 11; (with_reducible refine (bnum_at 2 HE.out.bs H2.out).mono ?_); rintro e wh ⟨rfl, hr, hg⟩; have n_ := Aside0.mk (HE.out.called hr hg); clear hr hg; clear HE; have HE := n_; clear n_) | ((with_reducible refine gate_store (t := 3) (p := 79) (v := .tmp 78) rfl ?_); refine cell_store rfl 3 (.tmp 79) (.tmp 78) rfl oiInt (q := 5) rfl rfl rfl HE.out.k8 (by simp [entC]) ?_; intro wf hb8 hg8 hz8; have n_ := Aside0.mk (HE.out.put8 (E2 := ⟨⟨11, 0, ⟨#[]⟩, ⟨#[]⟩, ⟨#[]⟩⟩, N, 0, 0⟩) hb8 hg8); clear hb8 hg8 hz8; clear HE; have HE := n_; clear n_) | (go_at_call 11; (with_reducible refine (bnum_at 2 HE.out.bs H3.out).mono ?_); rintro e wh ⟨rfl, hr, hg⟩; have n_ := Aside0.mk (HE.out.called hr hg); clear hr hg; clear HE; have HE := n_; clear n_) | ((with_reducible refine gate_store (t := 3) (p := 83) (v := .tmp 82) rfl ?_); refine cell_store rfl 3 (.tmp 83) (.tmp 82) rfl oiInt (q := 6) rfl rfl rfl HE.out.k8 (by simp [entC]) ?_; intro wf hb8 hg8 hz8; have n_ := Aside0.mk (HE.out.put8 (E2 := ⟨⟨11, 0, ⟨#[]⟩, ⟨#[]⟩, ⟨#[]⟩⟩, N, M, 0⟩) hb8 hg8); clear hb8 hg8 hz8; clear HE; have HE := n_; clear n_) | (go_at_call 11; (with_reducible refine (bnum_at 2 HE.out.bs H4.out).mono ?_); rintro e wh ⟨rfl, hr, hg⟩; have n_ := Aside0.mk (HE.out.called hr hg); clear hr hg; clear HE; have HE := n_; clear n_) | ((with_reducible refine gate_store (t := 3) (p := 87) (v := .tmp 86) rfl ?_); refine cell_store rfl 3 (.tmp 87) (.tmp 86) rfl oiInt (q := 7) rfl rfl rfl HE.out.k8 (by simp [entC]) ?_; intro wf hb8 hg8 hz8; have n_ := Aside0.mk (HE.out.put8 (E2 := ⟨⟨11, 0, ⟨#[]⟩, ⟨#[]⟩, ⟨#[]⟩⟩, N, M, O⟩) hb8 hg8); clear hb8 hg8 hz8; clear HE; have HE := n_; clear n_) | ((with_reducible refine gate_dst (N := 91) rfl ?_); refine cell_load rfl 4 (.tmp 90) rfl Try.underlying4 rfl rfl (bs_bad HE.out.bs) ?_))
            go_ret2
            exact ⟨_, rfl, Kd.R_nil _ _ _ _ _, HE.out.bs, HE.out.gr⟩
          | false =>
            rw [if_neg (by decide), if_neg (by decide)] at HRW
            have HKX : Aside0 (kindIn (⟨11, 0, ⟨#[]⟩, N, M, O⟩ : SR) ∧ ((⟨11, 0, ⟨#[]⟩, N, M, O⟩ : SR) : SR).text.size ≤ 65535) := ⟨by
              have h1 := oneF_kind (l := l) (bad := b) (by rw [HO.out])
              have h2 := oneF_text l b (bs_u8 HI.out.2.1.bs)
              rw [HO.out] at h1 h2
              exact ⟨h1, h2⟩⟩
            go_wp2_with (first | (go_at_call 11; (with_reducible refine (bnum_at 1 HS.out.bs H1.out).mono ?_); rintro e we ⟨rfl, hr, hg⟩; have n_ := Aside0.mk (HS.out.called hr hg); clear hr hg; clear HS; have HS := n_; clear n_) | ((with_reducible refine gate_dst (N := 8) rfl ?_); refine box_event ?hg (N := 8) ?hd (cs := #[.int .i64 0, .int .i64 0, .string ⟨#[]⟩, .string ⟨#[]⟩, .string ⟨#[]⟩, .int .i64 0, .int .i64 0, .int .i64 0]) (t := 70) ?hr ?_; (case hd => rfl); (case hg => rfl); (case hr => first | (go_simp; done) | (go_simp; rfl)); intro b8 hb8 wf hk8 hbl; have HK8 := Aside0.mk (show Blk wf b8 70 (entC entZ) from hk8); have HBL := Aside0.mk hbl; have HQ8 := Aside0.mk hb8; clear hb8 hk8 hbl) | ((with_reducible refine gate_store (t := 70) (p := 8) (v := .tmp 39) rfl ?_); refine blk_store rfl 70 (.tmp 8) (.tmp 39) rfl (cs' := entC ⟨conZ 11, 0, 0, 0⟩) infoE rfl rfl (entC_one _) HK8.out rfl ?_; intro wg hb4 hg4 hz4; have HE : Aside0 (RES W0 w wg g full L1 _ (.slice (some ⟨gb, 0, none⟩) n cap) _ b8 ⟨conZ 11, 0, 0, 0⟩) := ⟨by have h9 := HQ8.out; subst h9; exact HS.out.res (HBL.out.grown hg4 HBL.out.size (fun k hk => by cases hk; exact Nat.le_refl _)) hb4⟩; clear hb4 hg4 hz4 HBL HQ8 HK8) | (go_at_call 11; (with_reducible refine (bnum_at 2 HE.out.bs H2.out).mono ?_); rintro e wh ⟨rfl, hr, hg⟩; have n_ := Aside0.mk (HE.out.called hr hg); clear hr hg; clear HE; have HE := n_; clear n_) | ((with_reducible refine gate_store (t := 3) (p := 79) (v := .tmp 78) rfl ?_); refine cell_store rfl 3 (.tmp 79) (.tmp 78) rfl oiInt (q := 5) rfl rfl rfl HE.out.k8 (by simp [entC]) ?_; intro wf hb8 hg8 hz8; have n_ := Aside0.mk (HE.out.put8 (E2 := ⟨⟨11, 0, ⟨#[]⟩, ⟨#[]⟩, ⟨#[]⟩⟩, N, 0, 0⟩) hb8 hg8); clear hb8 hg8 hz8; clear HE; have HE := n_; clear n_) | (go_at_call 11; (with_reducible refine (bnum_at 2 HE.out.bs H3.out).mono ?_); rintro e wh ⟨rfl, hr, hg⟩; have n_ := Aside0.mk (HE.out.called hr hg); clear hr hg; clear HE; have HE := n_; clear n_) | ((with_reducible refine gate_store (t := 3) (p := 83) (v := .tmp 82) rfl ?_); refine cell_store rfl 3 (.tmp 83) (.tmp 82) rfl oiInt (q := 6) rfl rfl rfl HE.out.k8 (by simp [entC]) ?_; intro wf hb8 hg8 hz8; have n_ := Aside0.mk (HE.out.put8 (E2 := ⟨⟨11, 0, ⟨#[]⟩, ⟨#[]⟩, ⟨#[]⟩⟩, N, M, 0⟩) hb8 hg8); clear hb8 hg8 hz8; clear HE; have HE := n_; clear n_) | (go_at_call 11; (with_reducible refine (bnum_at 2 HE.out.bs H4.out).mono ?_); rintro e wh ⟨rfl, hr, hg⟩; have n_ := Aside0.mk (HE.out.called hr hg); clear hr hg; clear HE; have HE := n_; clear n_) | ((with_reducible refine gate_store (t := 3) (p := 87) (v := .tmp 86) rfl ?_); refine cell_store rfl 3 (.tmp 87) (.tmp 86) rfl oiInt (q := 7) rfl rfl rfl HE.out.k8 (by simp [entC]) ?_; intro wf hb8 hg8 hz8; have n_ := Aside0.mk (HE.out.put8 (E2 := ⟨⟨11, 0, ⟨#[]⟩, ⟨#[]⟩, ⟨#[]⟩⟩, N, M, O⟩) hb8 hg8); clear hb8 hg8 hz8; clear HE; have HE := n_; clear n_) | ((with_reducible refine gate_dst (N := 91) rfl ?_); refine cell_load rfl 4 (.tmp 90) rfl Try.underlying4 rfl rfl (bs_bad HE.out.bs) ?_) | ((with_reducible refine gate_dst (N := 96) rfl ?_); refine blk_load (cs := entC (⟨⟨11, 0, ⟨#[]⟩, ⟨#[]⟩, ⟨#[]⟩⟩, N, M, O⟩)) rfl 70 (.tmp 8) rfl Try.underlying70 rfl infoE rfl HE.out.k8 ?_) | ((with_reducible refine gate_store (t := 70) (p := 97) (v := .tmp 96) rfl ?_); refine storeE ?a1x11 ?a2x11 (.tmp 97) (.tmp 96) ?a3x11 (gb := gb) (o' := i * 8) i (⟨⟨11, 0, ⟨#[]⟩, ⟨#[]⟩, ⟨#[]⟩⟩, N, M, O⟩) ?a4x11 ?a5x11 ?a6x11 HE.out.bds.row hlt ?a9x11; (case a1x11 => rfl); (case a2x11 => rfl); (case a3x11 => rfl); (case a5x11 => rfl); (case a4x11 => rfl); (case a6x11 => rfl); intro wi h62 hg62; have HS2 := Aside0.mk (HE.out.putrow h62 hg62 HGB.out); clear h62 hg62 HE HS))
            go_roundw
            case rel =>
              refine ⟨i + 1, acc ++ [(⟨11, 0, ⟨#[]⟩, N, M, O⟩ : SR)], L4, false, by omega, by omega, by go_num, ⟨by rw [List.length_append, HI.out.1]; simp; omega, ?_, ?_, rfl, fun y hy => ?_⟩⟩
              · have h3 := HS2.out
                rw [← HEE.out, ← List.map_set, set_mid (rawZ 0 :: acc) (n - i) (rawZ 0) (⟨11, 0, ⟨#[]⟩, N, M, O⟩ : SR) i (by rw [List.length_cons, HI.out.1]; omega) (by omega)] at h3
                exact h3
              · rw [HI.out.2.2.1, HRW.out]; simp
              · rcases List.mem_append.1 hy with h | h
                · exact HI.out.2.2.2.2 y h
                · simp at h; subst h; exact HKX.out
            case measure => simp [intOf]; omega
      · have hK := numF_in 1 (bs_u8 HI.out.2.1.bs) h1
        have wrK : IntKind.i64.wrap K = K := IntWalk.i64_in _ (by have := hK; omega)
        have wxK : wrap64 K = K := wrap64_in _ (by have := hK; omega)
        have q1 : (K == 1) = false := by simp; omega
        have q3 : (K == 3) = false := by simp; omega
        have q5 : (K == 5) = false := by simp; omega
        have q7 : (K == 7) = false := by simp; omega
        have q8 : (K == 8) = false := by simp; omega
        have q9 : (K == 9) = false := by simp; omega
        have q10 : (K == 10) = false := by simp; omega
        have q11 : (K == 11) = false := by simp; omega
        · skip
          have ho : oneF l b = ((rawZ K), false, L1, B1) := by unfold oneF; simp [h1, k1, k3, k5, k7, k8, k9, k10, k11]
          have HO := Aside0.mk ho
          have HRW : Aside0 (rawsF (n - i) l b = if B1 = true then (11, [], L1, B1) else if false = false then (12, [], L1, B1) else ((rawsF (n - (i + 1)) L1 B1).1, (rawZ K) :: (rawsF (n - (i + 1)) L1 B1).2.1, (rawsF (n - (i + 1)) L1 B1).2.2)) := ⟨by
            rw [show n - i = (n - (i + 1)) + 1 by omega]
            conv => lhs; unfold rawsF
            rw [ho]⟩
          skip
          clear ho
          cases B1 with
          | true =>
            have hres : res = (11, [], L1, true) := by
              rw [HRF.out, HI.out.2.2.1, HRW.out]; simp
            subst hres
            clear HRF HRW
            go_wp2_with (first | (go_at_call 11; (with_reducible refine (bnum_at 1 HS.out.bs H1.out).mono ?_); rintro e we ⟨rfl, hr, hg⟩; have n_ := Aside0.mk (HS.out.called hr hg); clear hr hg; clear HS; have HS := n_; clear n_) | ((with_reducible refine gate_dst (N := 8) rfl ?_); refine box_event ?hg (N := 8) ?hd (cs := #[.int .i64 0, .int .i64 0, .string ⟨#[]⟩, .string ⟨#[]⟩, .string ⟨#[]⟩, .int .i64 0, .int .i64 0, .int .i64 0]) (t := 70) ?hr ?_; (case hd => rfl); (case hg => rfl); (case hr => first | (go_simp; done) | (go_simp; rfl)); intro b8 hb8 wf hk8 hbl; have HK8 := Aside0.mk (show Blk wf b8 70 (entC entZ) from hk8); have HBL := Aside0.mk hbl; have HQ8 := Aside0.mk hb8; clear hb8 hk8 hbl) | ((with_reducible refine gate_store (t := 70) (p := 8) (v := .tmp 39) rfl ?_); refine blk_store rfl 70 (.tmp 8) (.tmp 39) rfl (cs' := entC ⟨conZ K, 0, 0, 0⟩) infoE rfl rfl (entC_one _) HK8.out rfl ?_; intro wg hb4 hg4 hz4; have HE : Aside0 (RES W0 w wg g full L1 _ (.slice (some ⟨gb, 0, none⟩) n cap) _ b8 ⟨conZ K, 0, 0, 0⟩) := ⟨by have h9 := HQ8.out; subst h9; exact HS.out.res (HBL.out.grown hg4 HBL.out.size (fun k hk => by cases hk; exact Nat.le_refl _)) hb4⟩; clear hb4 hg4 hz4 HBL HQ8 HK8) | ((with_reducible refine gate_dst (N := 91) rfl ?_); refine cell_load rfl 4 (.tmp 90) rfl Try.underlying4 rfl rfl (bs_bad HE.out.bs) ?_))
            go_ret2
            exact ⟨_, rfl, Kd.R_nil _ _ _ _ _, HE.out.bs, HE.out.gr⟩
          | false =>
            have hres : res = (12, [], L1, false) := by
              rw [HRF.out, HI.out.2.2.1, HRW.out]; simp
            subst hres
            clear HRF HRW
            go_wp2_with (first | (go_at_call 11; (with_reducible refine (bnum_at 1 HS.out.bs H1.out).mono ?_); rintro e we ⟨rfl, hr, hg⟩; have n_ := Aside0.mk (HS.out.called hr hg); clear hr hg; clear HS; have HS := n_; clear n_) | ((with_reducible refine gate_dst (N := 8) rfl ?_); refine box_event ?hg (N := 8) ?hd (cs := #[.int .i64 0, .int .i64 0, .string ⟨#[]⟩, .string ⟨#[]⟩, .string ⟨#[]⟩, .int .i64 0, .int .i64 0, .int .i64 0]) (t := 70) ?hr ?_; (case hd => rfl); (case hg => rfl); (case hr => first | (go_simp; done) | (go_simp; rfl)); intro b8 hb8 wf hk8 hbl; have HK8 := Aside0.mk (show Blk wf b8 70 (entC entZ) from hk8); have HBL := Aside0.mk hbl; have HQ8 := Aside0.mk hb8; clear hb8 hk8 hbl) | ((with_reducible refine gate_store (t := 70) (p := 8) (v := .tmp 39) rfl ?_); refine blk_store rfl 70 (.tmp 8) (.tmp 39) rfl (cs' := entC ⟨conZ K, 0, 0, 0⟩) infoE rfl rfl (entC_one _) HK8.out rfl ?_; intro wg hb4 hg4 hz4; have HE : Aside0 (RES W0 w wg g full L1 _ (.slice (some ⟨gb, 0, none⟩) n cap) _ b8 ⟨conZ K, 0, 0, 0⟩) := ⟨by have h9 := HQ8.out; subst h9; exact HS.out.res (HBL.out.grown hg4 HBL.out.size (fun k hk => by cases hk; exact Nat.le_refl _)) hb4⟩; clear hb4 hg4 hz4 HBL HQ8 HK8) | ((with_reducible refine gate_dst (N := 91) rfl ?_); refine cell_load rfl 4 (.tmp 90) rfl Try.underlying4 rfl rfl (bs_bad HE.out.bs) ?_))
            go_ret2
            exact ⟨_, rfl, Kd.R_nil _ _ _ _ _, HE.out.bs, HE.out.gr⟩
    · have hlt' : ¬ (i : Int) < (n : Int) := by omega
      obtain rfl : n = i := by omega
      have HA := Aside0.mk HI.out.2.2.2.2
      have HAL := Aside0.mk HI.out.1
      have hrow := HI.out.2.1
      rw [Nat.sub_self, List.replicate_zero, List.append_nil] at hrow
      have htt : tot = (0, acc, l, false) := by
        rw [HI.out.2.2.1, HI.out.2.2.2.1, Nat.sub_self]
        show ((0 : Int), acc ++ [], l, false) = _
        rw [List.append_nil]
      obtain rfl : b = false := HI.out.2.2.2.1
      rw [htt] at HRF
      clear htt HTL HTOT HI
      obtain ⟨LL, hLL⟩ : ∃ LL, LL = rawZ 0 :: acc := ⟨_, rfl⟩
      have HLN : Aside0 (n = LL.length) := ⟨by rw [hLL, List.length_cons, HAL.out]; omega⟩
      have HLM : Aside0 (n = (LL.map entOf).length) := ⟨by rw [List.length_map]; exact HLN.out⟩
      have HSM : Aside0 (∀ y ∈ LL, y.text.size ≤ 65535) := ⟨fun y hy => by
        rw [hLL] at hy
        rcases List.mem_cons.1 hy with e | e
        · rw [e]; decide
        · exact (HA.out y e).2⟩
      have HRE : Aside0 (res = if (consF validS LL acc).1 ≠ 0 then ((consF validS LL acc).1, [], l, false) else (0, conZ 0 :: (consF validS LL acc).2, l, false)) := ⟨by rw [HRF.out, hLL]; simp⟩
      have HXI : Aside0 (∀ i, 1 ≤ i → i < n → rd62 LL (i : Int) = acc.getD (i - 1) (rawZ 0) ∧ acc.drop (i - 1) = acc.getD (i - 1) (rawZ 0) :: acc.drop i ∧ acc.getD (i - 1) (rawZ 0) ∈ acc) := ⟨fun i h1 h2 => by
        have hl := HAL.out
        have h3 : i - 1 < acc.length := by omega
        refine ⟨?_, ?_, ?_⟩
        · unfold rd62
          rw [Int.toNat_natCast, hLL]
          obtain ⟨k, rfl⟩ : ∃ k, i = k + 1 := ⟨i - 1, by omega⟩
          rfl
        · rw [List.drop_eq_getElem_cons h3, show i - 1 + 1 = i by omega]
          simp [List.getD_eq_getElem?_getD, h3]
        · simp [List.getD_eq_getElem?_getD, h3]⟩
      rw [← hLL] at hrow
      have HS := Aside0.mk hrow
      clear hrow hLL HRF
      go_wp2_with (first | ((with_reducible refine gate_dst (N := 99) rfl ?_); refine Kd.R_make k44 (w0 := wr) w.heap.size 44 rfl (N := 99) rfl 39 (.tmp 98) (.tmp 98) rfl (n : Int) rfl rfl Try.underlying39 (.agg (conC (conZ 0))) 64 infoCb rfl (by decide) (by decide) (conZ 0) (ok := fun _ => True) (okp := fun _ => True) (conM _ _ _ _) (fun _ h => h) trivial (by omega) (by omega) (Below.refl _ _) HS.out.size ?_; intro v10 wd h13 hb13 hg13 hat13; have n_ := Aside0.mk (HS.out.grown0 hg13); clear HS; have HS := n_; clear n_; have HC := Aside0.mk h13; clear h13 hb13 hg13 hat13))
      obtain ⟨gc, cap2, hform2, hgc⟩ : ∃ gc cap2, v10 = .slice (some ⟨gc, 0, none⟩) n cap2 ∧ n ≤ cap2 := by
        obtain ⟨A7, c7, e7, h7l, _⟩ := Kd.R_reads HC.out
        obtain ⟨gb2, cap, e, h2, _⟩ := Kd.R_form HC.out (by rw [List.length_replicate]; omega)
        rw [List.length_replicate] at e e7 h7l
        have e8 := e
        rw [e7] at e
        injection e with _ _ e; subst e
        exact ⟨gb2, c7, e8, h7l⟩
      subst hform2
      clear hgc
      go_loopw [11] (fun v11 wr => ∃ (i : Nat) (ys : List S44), 1 ≤ i ∧ i ≤ n ∧ v11 = .int .i64 i ∧ Aside0 (ys.length = i - 1 ∧ BDS W0 w wr g full l false (.slice (some ⟨gb, 0, none⟩) n cap) (LL.map entOf) ∧ Kd.R k44 44 wr w.heap.size (fun _ => True) (.slice (some ⟨gc, 0, none⟩) n cap2) (conZ 0 :: ys ++ List.replicate (n - i) (conZ 0)) ∧ consF validS LL acc = ((consF validS LL (acc.drop (i - 1))).1, ys ++ (consF validS LL (acc.drop (i - 1))).2))) (fun v11 _ => n - (intOf v11).toNat)
      case atStart =>
        refine ⟨1, [], Nat.le_refl _, hn1, rfl, ⟨rfl, HS.out, ?_, rfl⟩⟩
        have h2 : (conZ 0 :: ([] : List S44) ++ List.replicate (n - 1) (conZ 0)) = List.replicate n (conZ 0) := by
          show conZ 0 :: List.replicate (n - 1) (conZ 0) = _
          rw [← List.replicate_succ, show n - 1 + 1 = n by omega]
        rw [h2]; exact HC.out
      case round =>
        clear HS HC
        obtain ⟨i, ys, hi1, hin, rfl, HI⟩ := hrel
        by_cases hlt : i < n
        · have hlt' : (i : Int) < (n : Int) := by omega
          have hi1' : (1 : Int) ≤ (i : Int) := by omega
          have HS := Aside0.mk HI.out.2.1
          have HC := Aside0.mk HI.out.2.2.1
          obtain ⟨x1, x2, x3⟩ := HXI.out i hi1 hlt
          generalize acc.getD (i - 1) (rawZ 0) = x at *
          have HX := Aside0.mk x1
          have HKX := Aside0.mk (HA.out x x3).1
          obtain ⟨y0, y1, y2, y3, y4, y5, y6, y7⟩ := ent_cells HS.out.row i (by rw [← HLN.out]; exact hlt) x1
          rcases hme : madeF validS LL x with ⟨cc, e⟩
          have HME := Aside0.mk hme
          have HCO : Aside0 (consF validS LL acc = if e ≠ 0 then (e, ys) else ((consF validS LL (acc.drop i)).1, ys ++ (cc :: (consF validS LL (acc.drop i)).2))) := ⟨by
            rw [HI.out.2.2.2, x2]
            conv => lhs; unfold consF
            rw [hme]
            dsimp only
            split
            · rw [List.append_nil]
            · rfl⟩
          clear x1 x2 x3 hme
          by_cases he : e = 0
          · subst he
            rw [if_neg (by decide)] at HCO
            go_wp2_with (first | (go_at_call 25; (refine (filled_two (L := LL) (x := x) (E := entOf x) rfl HLM.out (Kd.R_reads' HS.out.row).2.2 HCAP.out HKX.out HSM.out HME.out).mono ?_); rintro e' we ⟨c', rfl, hcc, hbl⟩; (try obtain rfl := (hcc rfl).symm); have n_ := Aside0.mk (HS.out.below hbl); clear HS; have HS := n_; clear n_; have n_ := Aside0.mk (Kd.R_below HC.out hbl); clear HC; have HC := n_; clear n_ hbl) | ((with_reducible refine gate_dst (N := 12) rfl ?_); refine box_event ?hg (N := 12) ?hd (cs := #[.int .i64 0, .int .i64 0, .string ⟨#[]⟩, .string ⟨#[]⟩, .string ⟨#[]⟩]) (t := 44) ?hr ?_; (case hd => rfl); (case hg => rfl); (case hr => first | (go_simp; done) | (go_simp; rfl)); intro b9 hb9 wf hk9 hbl; have HK9 := Aside0.mk (show Blk wf b9 44 (conC (conZ 0)) from hk9); have HBL := Aside0.mk hbl; have HE := Aside0.mk (Nat.le_of_eq hb9.symm); clear hb9 hk9 hbl) | ((with_reducible refine gate_store (t := 44) (p := 12) (v := .tmp 112) rfl ?_); refine blk_store rfl 44 (.tmp 12) (.tmp 112) rfl (cs' := conC cc) infoC rfl rfl (conC_one _) HK9.out rfl ?_; intro wg hb4 hg4 hz4; have n_ := Aside0.mk hb4; clear HK9; have HK9 := n_; clear n_; have HBL2 := Aside0.mk (HBL.out.grown hg4 HBL.out.size (fun k hk => by cases hk; exact HE.out)); have n_ := Aside0.mk (HS.out.below HBL2.out); clear HS; have HS := n_; clear n_; have n_ := Aside0.mk (Kd.R_below HC.out HBL2.out); clear HC; have HC := n_; clear n_; clear hb4 hg4 hz4 HBL HE HBL2) | ((with_reducible refine gate_dst (N := 119) rfl ?_); refine blk_load (cs := conC cc) rfl 44 (.tmp 12) rfl Try.underlying44 rfl infoC rfl HK9.out ?_) | ((with_reducible refine gate_store (t := 44) (p := 120) (v := .tmp 119) rfl ?_); refine storeC ?a1 ?a2 (.tmp 120) (.tmp 119) ?a3 (gb := gc) (o' := i * 5) i cc ?a4 ?a5 ?a6 HC.out hlt ?a9; (case a1 => rfl); (case a2 => rfl); (case a3 => rfl); (case a5 => rfl); (case a4 => rfl); (case a6 => rfl); intro wi h44 hg44; have HS2 := Aside0.mk (HS.out.putC HC.out hlt hg44); have HC2 := Aside0.mk h44; clear h44 hg44 HS HC))
            go_roundw
            case rel =>
              refine ⟨i + 1, ys ++ [cc], by omega, by omega, by go_num, ⟨by rw [List.length_append, HI.out.1]; simp; omega, HS2.out, ?_, ?_⟩⟩
              · have h3 := HC2.out
                rw [set_mid (conZ 0 :: ys) (n - i) (conZ 0) cc i (by rw [List.length_cons, HI.out.1]; omega) (by omega)] at h3
                exact h3
              · rw [HCO.out]; simp
            case measure => simp [intOf]; omega
          · have he' : (e == 0) = false := by simpa using he
            have hres : res = (e, [], l, false) := by
              rw [HRE.out, HCO.out, if_pos he]; simp [he]
            subst hres
            clear HRE HCO
            go_wp2_with (first | (go_at_call 25; (refine (filled_two (L := LL) (x := x) (E := entOf x) rfl HLM.out (Kd.R_reads' HS.out.row).2.2 HCAP.out HKX.out HSM.out HME.out).mono ?_); rintro e' we ⟨c', rfl, hcc, hbl⟩; (try obtain rfl := (hcc rfl).symm); have n_ := Aside0.mk (HS.out.below hbl); clear HS; have HS := n_; clear n_; have n_ := Aside0.mk (Kd.R_below HC.out hbl); clear HC; have HC := n_; clear n_ hbl) | ((with_reducible refine gate_dst (N := 12) rfl ?_); refine box_event ?hg (N := 12) ?hd (cs := #[.int .i64 0, .int .i64 0, .string ⟨#[]⟩, .string ⟨#[]⟩, .string ⟨#[]⟩]) (t := 44) ?hr ?_; (case hd => rfl); (case hg => rfl); (case hr => first | (go_simp; done) | (go_simp; rfl)); intro b9 hb9 wf hk9 hbl; have HK9 := Aside0.mk (show Blk wf b9 44 (conC (conZ 0)) from hk9); have HBL := Aside0.mk hbl; have HE := Aside0.mk (Nat.le_of_eq hb9.symm); clear hb9 hk9 hbl) | ((with_reducible refine gate_store (t := 44) (p := 12) (v := .tmp 112) rfl ?_); refine blk_store rfl 44 (.tmp 12) (.tmp 112) rfl (cs' := conC c') infoC rfl rfl (conC_one _) HK9.out rfl ?_; intro wg hb4 hg4 hz4; have n_ := Aside0.mk hb4; clear HK9; have HK9 := n_; clear n_; have HBL2 := Aside0.mk (HBL.out.grown hg4 HBL.out.size (fun k hk => by cases hk; exact HE.out)); have n_ := Aside0.mk (HS.out.below HBL2.out); clear HS; have HS := n_; clear n_; have n_ := Aside0.mk (Kd.R_below HC.out HBL2.out); clear HC; have HC := n_; clear n_; clear hb4 hg4 hz4 HBL HE HBL2))
            go_ret2
            exact ⟨_, rfl, Kd.R_nil _ _ _ _ _, HS.out.bs, HS.out.gr⟩
        · have hlt' : ¬ (i : Int) < (n : Int) := by omega
          obtain rfl : n = i := by omega
          have hres : res = (0, conZ 0 :: ys, l, false) := by
            have h1 := HI.out.2.2.2
            rw [List.drop_eq_nil_of_le (by have := HAL.out; omega)] at h1
            have h2 : consF validS LL [] = (0, []) := rfl
            rw [h2, List.append_nil] at h1
            rw [HRE.out, h1]; simp
          have hC := HI.out.2.2.1
          rw [Nat.sub_self, List.replicate_zero, List.append_nil] at hC
          have HC := Aside0.mk hC
          have HS := Aside0.mk HI.out.2.1
          subst hres
          clear hC HI HRE
          go_wp2_with fail
          go_ret2
          exact ⟨_, rfl, HC.out, HS.out.bs, HS.out.gr⟩
end Go.Proofs.Ytedmhopginmjaaa.PAll
