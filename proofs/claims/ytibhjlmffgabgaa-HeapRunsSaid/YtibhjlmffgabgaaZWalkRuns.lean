import Derived.Test.YtibhjlmffgabgaaZRunKind2
namespace Go.Proofs.Ytibhjlmffgabgaa.PAll
open Go.RowKit Go.Proofs.YtibhjlmffgabgaaW.PrintWords Go.Proofs.YtibhjlmffgabgaaW.PrintLast Go.Proofs.YtibhjlmffgabgaaW.PrintMore
open Go.Proofs.Ytibhjlmffgabgaa.MapInt
set_option linter.unusedVariables false
set_option linter.unusedSimpArgs false
set_option maxHeartbeats 16000000 in
set_option maxRecDepth 100000 in
theorem runs_x (words : Int) (A0 : Option Addr) (c0 : Nat) (l : List S35) (L : Nat) (W : World) (hC : Kd.C k35 W A0 L l) (hg : ∀ x ∈ l, inR x.f5 ∧ ∀ r ∈ x.f6, inR r) (hL : L ≤ 9223372036854775807) :
    Calls Try.prog 7 #[.int .i64 words, .slice A0 L c0] W fun e W' => e = .returned (.bool true) ∧ Below W.heap.size W W' := by
  have HCL := Aside0.mk (fun i hi => call_at hC hg i hi)
  clear hC hg
  by_cases hw : words < 1 ∨ 65536 < words
  · have HN := Aside0.mk (fun w => new_bad (w := w) words hw)
    have HR := Aside0.mk (fun w => rnew_bad (w := w) words hw)
    clear hw HCL
    go_enter Try.func7, Try.ntmps7
    go_wp2_with (first | (go_at_call 9; (with_reducible refine (holds_calls _).mono ?_); rintro e w1 ⟨rfl, hb1⟩; have HB1 := Aside0.mk hb1; clear hb1) | (go_at_call 10; (with_reducible refine (HN.out _).mono ?_); rintro e w2 ⟨rfl, hb2⟩; have HB2 := Aside0.mk (below_step HB1.out hb2); clear hb2) | (go_at_call 23; (with_reducible refine (HR.out _).mono ?_); rintro e w3 ⟨rfl, hb3⟩; have HB3 := Aside0.mk (below_step HB2.out hb3); clear hb3))
    (try go_ret)
    exact ⟨rfl, HB3.out⟩
  obtain ⟨m, rfl⟩ : ∃ m : Nat, words = m := ⟨words.toNat, by omega⟩
  have hm : 1 ≤ m ∧ m ≤ 65536 := by omega
  have HN : Aside0 (∀ w, Calls Try.prog 10 #[.int .i64 (m : Int)] w fun e w' => ∃ g P, e = .returned (.tuple #[.pointer (some ⟨g, 0, none⟩), .int .i64 0]) ∧ AZ w' P g m [] [] 0 ∧ Below w.heap.size w w' ∧ ∀ k, P k → w.heap.size ≤ k) := ⟨fun w => new_az w m hm.1 hm.2⟩
  have HR : Aside0 (∀ w, Below W.heap.size W w → Calls Try.prog 23 #[.int .i64 (m : Int)] w fun e w' => ∃ g, e = .returned (.tuple #[.pointer (some ⟨g, 0, none⟩), .int .i64 0]) ∧ RM w' w.heap.size (fun k => k = w.heap.size) (fun k => k < W.heap.size) g (m : Int) [] [] 0 (.slice none 0 0) (.slice none 0 0) ∧ g = w.heap.size ∧ Below w.heap.size w w') := ⟨fun w hb => rnew_calls _ (fun k hk => Nat.lt_of_lt_of_le hk hb.size) _ (by omega) (by omega)⟩
  have HMM := Aside0.mk hm
  clear hw
  go_enter Try.func7, Try.ntmps7
  go_wp2_with (first | (go_at_call 9; (with_reducible refine (holds_calls _).mono ?_); rintro e w1 ⟨rfl, hb1⟩; have HB1 := Aside0.mk hb1; clear hb1) | (go_at_call 10; (with_reducible refine (HN.out _).mono ?_); rintro e w2 ⟨ga, P, rfl, ha, hb2, hp⟩; have HA := Aside0.mk (And.intro ha (And.intro hb2 hp)); have HB2 := Aside0.mk (below_step HB1.out hb2); clear ha hb2 hp) | (go_at_call 23; (with_reducible refine (HR.out _ HB2.out).mono ?_); rintro e w3 ⟨g, rfl, hr, hge, hb3⟩; have HS0 := Aside0.mk (rs_start HB1.out HA.out.1 HA.out.2.1 HA.out.2.2 HMM.out hr hb3); clear hr hb3 hge))
  clear HN HR HA HB1 HB2
  go_loopw [38] (fun v38 wr => ∃ (i : Nat) (ls : List SH) (ts : List TH) (mv : Int), i ≤ L ∧ i ≤ 120 ∧ v38 = .int .i64 i ∧ ls.length ≤ i ∧ 0 ≤ mv ∧ mv ≤ i ∧ Aside0 (RS none W wr ga g m (cvt ls) (ts.map (·.t)) mv ls ts mv)) (fun v38 _ => L - (intOf v38).toNat)
  case atStart => exact ⟨0, [], [], 0, Nat.zero_le _, Nat.zero_le _, rfl, Nat.le_refl _, Int.le_refl _, Int.le_refl _, HS0⟩
  case round =>
    clear HS0
    obtain ⟨i, ls, ts, mv, hi, hi2, rfl, hls, hmv0, hmv1, HS⟩ := hrel
    have HAL : Aside0 (∀ w, RS none W w ga g m (cvt ls) (ts.map (·.t)) mv ls ts mv → Calls Try.prog 34 #[.pointer (some ⟨ga, 0, none⟩), .pointer (some ⟨g, 0, none⟩)] w fun e w' => e = .returned (.bool true) ∧ Below W.heap.size W w') := ⟨fun w h => rs_alike h⟩
    by_cases hlt : i < L
    · have hltI : (i : Int) < (L : Int) := by omega
      obtain ⟨ad, x, A1, c1, A6, c6, rfl, hcell, hcw, hx1, hx6⟩ := HCL.out i hlt
      obtain ⟨y0, y1, y2, y3, y4, y5, y6⟩ := hcell wr HS.out.bel
      have HCW := Aside0.mk hcw
      clear hcell hcw
      have HR : Aside0 (RR W (wr.alloc (.cells #[.int .i64 x.f0, .slice A1 x.f1.length c1, .int .i64 x.f2, .int .i64 x.f3, .int .i64 x.f4, .int .i64 x.f5, .slice A6 x.f6.length c6] 35)) ga g m ls ts mv wr.heap.size (boxC x A1 c1 A6 c6)) := ⟨⟨HS.out.box (boxC x A1 c1 A6 c6)⟩⟩
      by_cases h1 : i = 120
      · have b1 : ((i : Int) == 120) = true := by simp; omega
        clear h1
        go_wp2_with (first | (go_at_call 34; (with_reducible refine (HAL.out _ HR.out.out.unbox).mono ?_); rintro e w9 ⟨rfl, hb9⟩; have HB9 := Aside0.mk hb9; clear hb9))
        (try go_ret)
        exact ⟨rfl, HB9.out⟩
      have b1 : ((i : Int) == 120) = false := by simp; omega
      by_cases h2 : 50 < x.f1.length
      · have b2 : decide ((50 : Int) < (x.f1.length : Int)) = true := by simp; omega
        clear h2
        go_wp2_with (first | (go_at_call 34; (with_reducible refine (HAL.out _ HR.out.out.unbox).mono ?_); rintro e w9 ⟨rfl, hb9⟩; have HB9 := Aside0.mk hb9; clear hb9))
        (try go_ret)
        exact ⟨rfl, HB9.out⟩
      have b2 : decide ((50 : Int) < (x.f1.length : Int)) = false := by simp; omega
      by_cases h3 : 100 < x.f6.length
      · have b3 : decide ((100 : Int) < (x.f6.length : Int)) = true := by simp; omega
        clear h3
        go_wp2_with (first | (go_at_call 34; (with_reducible refine (HAL.out _ HR.out.out.unbox).mono ?_); rintro e w9 ⟨rfl, hb9⟩; have HB9 := Aside0.mk hb9; clear hb9))
        (try go_ret)
        exact ⟨rfl, HB9.out⟩
      have b3 : decide ((100 : Int) < (x.f6.length : Int)) = false := by simp; omega
      have HC := Aside0.mk (HCW.out (by omega) (by omega))
      have hi3 : i + 1 ≤ 120 := by omega
      clear h1 h2 h3 HCW HCL hx1 hx6
      go_upto_region 11 with (fail)
      generalize wr.alloc (.cells #[.int .i64 x.f0, .slice A1 x.f1.length c1, .int .i64 x.f2, .int .i64 x.f3, .int .i64 x.f4, .int .i64 x.f5, .slice A6 x.f6.length c6] 35) = wb at *
      generalize wr.heap.size = b10 at *
      clear y0 y1 y2 y3 y4 y5 y6
      clear HS HAL hltI b1 b2 b3
      obtain ⟨z0, z1, z2, z3, z4, z5, z6⟩ := cs7 HR.out.bx
      go_upto_block 2 with (fail)
      go_cut [38] from 39 to 198 (fun v38 wx => ∃ (ls2 : List SH) (ts2 : List TH) (mv2 : Int), v38 = .int .i64 i ∧ ls2.length ≤ i + 1 ∧ 0 ≤ mv2 ∧ mv2 ≤ i + 1 ∧ Aside0 (RR W wx ga g m ls2 ts2 mv2 b10 (boxC x A1 c1 A6 c6)))
      case first =>
        by_cases f0 : x.f0 = 0
        · have e0 : (x.f0 == 0) = true := by simp; omega
          clear f0
          obtain ⟨M, n0, ls2, hls2, hmp, hc1, hc2⟩ := k0_mk (W := W) (ga := ga) (g := g) (m := m) (ts := ts) (mv := mv) (b := b10) (CS := boxC x A1 c1 A6 c6) (show ls.length ≤ 120 by omega) HC.out
          have HMP := Aside0.mk hmp
          have HC1 := Aside0.mk hc1
          have HC2 := Aside0.mk hc2
          have HLS : Aside0 (ls2.length = ls.length + 1) := ⟨hls2⟩
          clear hmp hc1 hc2 hls2 HC
          go_upto_region 15 with (fail)
          clear z0 z2 z3 z4 z5 z6
          go_region_held3 (fun w' : World => w'.cell? ⟨b10, 1, none⟩ = some (.slice A1 x.f1.length c1)) (first | go_keep | (exact (cs7 (HR2.out.bx)).2.1) | (exact (cs7 (HMP.out.bx _ HM.out)).2.1)) (first
            | (go_at_call 15; refine (HC1.out _ (HR.out.below (by repeat' first | exact Below.refl _ _ | apply below_drew))).mono ?_; rintro e w1 ⟨rfl, hm1⟩; have HM := Aside0.mk hm1; clear hm1 HR)
            | (go_at_call 24; refine (HC2.out _ (HMP.out.bel _ _ HM.out (by repeat' first | exact Below.refl _ _ | apply below_drew))).mono ?_; rintro e w2 ⟨rfl, hr2⟩; have HR2 := Aside0.mk hr2; clear hr2 HM))
          clear z1
          go_wp2_with fail
          go_meet
          case rel => exact ⟨ls2, ts, mv, rfl, (by have := HLS.out; omega), by omega, by omega, ⟨HR2.out⟩⟩
        have e0 : (x.f0 == 0) = false := by simp; omega
        by_cases f1 : x.f0 = 1
        · have e1 : (x.f0 == 1) = true := by simp; omega
          clear f1 f0
          obtain ⟨M, RL, ML, n0, ls2, hls2, hmp, hmp2, hmp3, hc1, hl1, hl2, hc2, hc3⟩ := k1_mk (W := W) (ga := ga) (g := g) (m := m) (ts := ts) (mv := mv) (b := b10) (CS := boxC x A1 c1 A6 c6) (show ls.length ≤ 120 by omega) x.f2
          have HMP := Aside0.mk hmp
          have HMP2 := Aside0.mk hmp2
          have HMP3 := Aside0.mk hmp3
          have HC1 := Aside0.mk hc1
          have HL1 := Aside0.mk hl1
          have HL2 := Aside0.mk hl2
          have HC2 := Aside0.mk hc2
          have HC3 := Aside0.mk hc3
          have HLS : Aside0 (∀ q, (ls2 q).length = ls.length + 1) := ⟨hls2⟩
          clear hmp hmp2 hmp3 hc1 hl1 hl2 hc2 hc3 hls2 HC
          go_upto_region 18 with (fail)
          clear z0 z1 z3 z4 z5 z6
          go_region_held3 (fun w' : World => w'.cell? ⟨b10, 2, none⟩ = some (.int .i64 x.f2)) (first | go_keep | (exact (cs7 (HR2.out.bx)).2.2.1) | (exact (cs7 ((HMP2.out _).bx _ HML.out)).2.2.1) | (exact (cs7 (HMP.out.bx _ HM.out)).2.2.1)) (first
            | (go_at_call 11; refine (HC1.out _ (HR.out.below ?_)).mono ?_; (· (repeat' first | exact Below.refl _ _ | apply below_drew)); rintro e w1 ⟨rfl, hm1⟩; have HM := Aside0.mk hm1; clear hm1 HR)
            | (go_at_call 11; refine (HC2.out _ _ ((HMP3.out _).bel _ _ (HL1.out wb (HR.out.below (by repeat' first | exact Below.refl _ _ | apply below_drew))) ?_)).mono ?_; (· (repeat' first | exact Below.refl _ _ | apply below_drew)); rintro e w1 ⟨rfl, hm1⟩; have HML := Aside0.mk hm1; clear hm1 HR)
            | (go_at_call 11; refine (HC2.out _ _ ((HMP3.out _).bel _ _ (HL1.out wb.drew (HR.out.below (by repeat' first | exact Below.refl _ _ | apply below_drew))) ?_)).mono ?_; (· (repeat' first | exact Below.refl _ _ | apply below_drew)); rintro e w1 ⟨rfl, hm1⟩; have HML := Aside0.mk hm1; clear hm1 HR)
            | (go_at_call 11; refine (HC2.out _ _ ((HMP3.out _).bel _ _ (HL1.out wb.drew.drew (HR.out.below (by repeat' first | exact Below.refl _ _ | apply below_drew))) ?_)).mono ?_; (· (repeat' first | exact Below.refl _ _ | apply below_drew)); rintro e w1 ⟨rfl, hm1⟩; have HML := Aside0.mk hm1; clear hm1 HR)
            | (go_at_call 24; refine (HC3.out _ _ ((HMP2.out _).bel _ _ HML.out ?_)).mono ?_; (· (repeat' first | exact Below.refl _ _ | apply below_drew)); rintro e w2 ⟨rfl, hr2⟩; have HR2 := Aside0.mk hr2; clear hr2 HML)
            | (go_at_call 24; refine (HC3.out _ _ ((HMP2.out _).bel _ _ (HL2.out w1 (HMP.out.bel _ _ HM.out (by repeat' first | exact Below.refl _ _ | apply below_drew))) ?_)).mono ?_; (· (repeat' first | exact Below.refl _ _ | apply below_drew)); rintro e w2 ⟨rfl, hr2⟩; have HR2 := Aside0.mk hr2; clear hr2 HM)
            | (go_at_call 24; refine (HC3.out _ _ ((HMP2.out _).bel _ _ (HL2.out w1.drew (HMP.out.bel _ _ HM.out (by repeat' first | exact Below.refl _ _ | apply below_drew))) ?_)).mono ?_; (· (repeat' first | exact Below.refl _ _ | apply below_drew)); rintro e w2 ⟨rfl, hr2⟩; have HR2 := Aside0.mk hr2; clear hr2 HM)
            | (go_at_call 24; refine (HC3.out _ _ ((HMP2.out _).bel _ _ (HL2.out w1.drew.drew (HMP.out.bel _ _ HM.out (by repeat' first | exact Below.refl _ _ | apply below_drew))) ?_)).mono ?_; (· (repeat' first | exact Below.refl _ _ | apply below_drew)); rintro e w2 ⟨rfl, hr2⟩; have HR2 := Aside0.mk hr2; clear hr2 HM))
          all_goals (
            clear z2
            go_wp2_with fail
            go_meet
            case rel => exact ⟨(ls2 _), ts, mv, rfl, (by have := HLS.out; simp only [this]; omega), by omega, by omega, ⟨HR2.out⟩⟩)
        have e1 : (x.f0 == 1) = false := by simp; omega
        by_cases f2 : x.f0 = 2
        · skip
          refine kind2_x f2 hls hmv0 hmv1 HR ?_ ?_
          · intro y39 y40 y41 y42 y43 y44 y45 y46 y47 y48 y49 y50 y51 y52 y53 y54 y55 y56 y57 y58 y59 y60 y61 y62 y63 y64 y65 y66 y67 y68 y69 y70 y71 y72 y73 y74 y75 y76 y77 y78 y79 y80 y81 y82 y83 y84 y85 y86 y87 y88 y89 y90 y91 y92 y93 y94 y95 y96 y97 y98 y99 y100 y101 y102 y103 y104 y105 y106 y107 y108 y109 y110 y111 y112 y113 y114 y115 y116 y117 y118 y119 y120 y121 y122 y123 y124 y125 y126 y127 y128 y129 y130 y131 y132 y133 y134 y135 y136 y137 y138 y139 y140 y141 y142 y143 y144 y145 y146 y147 y148 y149 y150 y151 y152 y153 y154 y155 y156 y157 y158 y159 y160 y161 y162 y163 y164 y165 y166 y167 y168 y169 y170 y171 y172 y173 y174 y175 y176 y177 y178 y179 y180 y181 y182 y183 y184 y185 y186 y187 y188 y189 y190 y191 y192 y193 y194 y195 y196 y197 y198 wx h
            obtain ⟨ls2, ts2, mv2, q1, q2, q3, HT⟩ := h
            dsimp only
            go_wp2_with (fail)
            go_meet
            case rel => exact ⟨ls2, ts2, mv2, rfl, q1, q2, q3, HT⟩
          · intro y39 y40 y41 y42 y43 y44 y45 y46 y47 y48 y49 y50 y51 y52 y53 y54 y55 y56 y57 y58 y59 y60 y61 y62 y63 y64 y65 y66 y67 y68 y69 y70 y71 y72 y73 y74 y75 y76 y77 y78 y79 y80 y81 y82 y83 y84 y85 y86 y87 y88 y89 y90 y91 y92 y93 y94 y95 y96 y97 y98 y99 y100 y101 y102 y103 y104 y105 y106 y107 y108 y109 y110 y111 y112 y113 y114 y115 y116 y117 y118 y119 y120 y121 y122 y123 y124 y125 y126 y127 y128 y129 y130 y131 y132 y133 y134 y135 y136 y137 y138 y139 y140 y141 y142 y143 y144 y145 y146 y147 y148 y149 y150 y151 y152 y153 y154 y155 y156 y157 y158 y159 y160 y161 y162 y163 y164 y165 y166 y167 y168 y169 y170 y171 y172 y173 y174 y175 y176 y177 y178 y179 y180 y181 y182 y183 y184 y185 y186 y187 y188 y189 y190 y191 y192 y193 y194 y195 y196 y197 y198
            go_wp2_with (fail)
            go_roundw
            case rel => exact ⟨i + 1, ls, ts, mv, by omega, by omega, by go_num, by omega, by omega, by omega, ⟨HR.out.out.unbox⟩⟩
            case measure => (simp [intOf]; omega)
        have e2 : (x.f0 == 2) = false := by simp; omega
        by_cases f3 : x.f0 = 3
        · have e3 : (x.f0 == 3) = true := by simp; omega
          clear f3 f0 f1 f2
          obtain ⟨M, hmp, hc1, hc2⟩ := k3_mk (W := W) (ga := ga) (g := g) (m := m) (ls := ls) (ts := ts) (mv := mv) (b := b10) (CS := boxC x A1 c1 A6 c6) x.f4 x.f3 x.f5 HC.out.r.in5
          have HMP := Aside0.mk hmp
          have HC1 := Aside0.mk hc1
          have HC2 := Aside0.mk hc2
          clear hmp hc1 hc2 HC
          go_upto_region 26 with (go_at_call 16; (with_reducible refine (HC1.out _ HR.out).mono ?_); rintro e w1 ⟨rfl, hm1⟩; have HM := Aside0.mk hm1; clear hm1 HR)
          clear z0 z1 z2 z3 z4 z5 z6
          obtain ⟨z0, z1, z2, z3, z4, z5, z6⟩ := cs7 (HMP.out.bx _ HM.out)
          go_upto_region 30 with (go_at_call 28; (with_reducible refine (HC2.out _ HM.out).mono ?_); rintro e w2 ⟨rfl, ts2, hr2⟩; have HR2 := Aside0.mk hr2; clear hr2 HM)
          clear z0 z1 z2 z3 z4 z5 z6
          go_wp2_with fail
          go_meet
          case rel => exact ⟨ls, ts2, mv, rfl, by omega, by omega, by omega, ⟨HR2.out⟩⟩
        have e3 : (x.f0 == 3) = false := by simp; omega
        by_cases f4 : x.f0 = 4
        · have e4 : (x.f0 == 4) = true := by simp; omega
          clear f4 f0 f1 f2 f3
          obtain ⟨M, M2, hmp, hmp2, hc1, hc2, hc3⟩ := k4_mk (W := W) (ga := ga) (g := g) (m := m) (ls := ls) (ts := ts) (mv := mv) (b := b10) (CS := boxC x A1 c1 A6 c6) (show 0 ≤ mv ∧ mv ≤ 1000 by omega) HC.out
          have HMP := Aside0.mk hmp
          have HMP2 := Aside0.mk hmp2
          have HC1 := Aside0.mk hc1
          have HC2 := Aside0.mk hc2
          have HC3 := Aside0.mk hc3
          clear hmp hmp2 hc1 hc2 hc3 HC
          go_upto_region 28 with (fail)
          clear z0 z1 z2 z3 z4 z5
          go_region_held3 (fun w' : World => w'.cell? ⟨b10, 6, none⟩ = some (.slice A6 x.f6.length c6)) (first | go_keep | (exact (cs7 (HR2.out.bx)).2.2.2.2.2.2) | (exact (cs7 ((HMP2.out _ _).bx _ HN.out)).2.2.2.2.2.2) | (exact (cs7 ((HMP.out _).bx _ HM.out)).2.2.2.2.2.2)) (first
            | (go_at_call 14; refine (HC1.out _ (HR.out.below (by repeat' first | exact Below.refl _ _ | apply below_drew))).mono ?_; rintro e w1 ⟨u1, rfl, hm1⟩; have HM := Aside0.mk hm1; clear hm1 HR)
            | (go_at_call 29; refine (HC2.out _ _ ((HMP.out _).bel _ _ HM.out (by repeat' first | exact Below.refl _ _ | apply below_drew))).mono ?_; rintro e w2 ⟨u2, rfl, hn2⟩; have HN := Aside0.mk hn2; clear hn2 HM)
            | (go_at_call 19; refine (HC3.out _ _ _ ((HMP2.out _ _).bel _ _ HN.out (by repeat' first | exact Below.refl _ _ | apply below_drew))).mono ?_; rintro e w3 ⟨rfl, ts2, hr2⟩; have HR2 := Aside0.mk hr2; clear hr2 HN))
          clear z6
          go_wp2_with fail
          go_meet
          case rel => exact ⟨ls, ts2, (mv + 1), rfl, by omega, by omega, by omega, ⟨HR2.out⟩⟩
        have e4 : (x.f0 == 4) = false := by simp; omega
        clear f0 f1 f2 f3 f4
        obtain ⟨n0, hc1, hc2⟩ := k5_mk (W := W) (ga := ga) (g := g) (m := m) (ls := ls) (ts := ts) (mv := mv) (b := b10) (CS := boxC x A1 c1 A6 c6) HC.out
        have HC1 := Aside0.mk hc1
        have HC2 := Aside0.mk hc2
        clear hc1 hc2 HC
        go_upto_region 12 with (fail)
        clear z0 z1 z2 z3 z4 z5
        go_region_held3 (fun w' : World => w'.cell? ⟨b10, 6, none⟩ = some (.slice A6 x.f6.length c6)) (first | go_keep | (exact (cs7 (HR2.out.bx)).2.2.2.2.2.2) | (exact (cs7 (HR1.out.bx)).2.2.2.2.2.2)) (first
          | (go_at_call 17; refine (HC1.out _ (HR.out.below (by repeat' first | exact Below.refl _ _ | apply below_drew))).mono ?_; rintro e w1 ⟨rfl, hr1⟩; have HR1 := Aside0.mk hr1; clear hr1 HR)
          | (go_at_call 30; refine (HC2.out _ (HR1.out.below (by repeat' first | exact Below.refl _ _ | apply below_drew))).mono ?_; rintro e w2 ⟨rfl, hr2⟩; have HR2 := Aside0.mk hr2; clear hr2 HR1))
        clear z6
        go_wp2_with fail
        go_meet
        case rel => exact ⟨ls, ts, mv, rfl, by omega, by omega, by omega, ⟨HR2.out⟩⟩
      case rest =>
        obtain ⟨ls2, ts2, mv2, rfl, hls2, hmv3, hmv4, HT⟩ := hcut
        obtain ⟨fr, gr, hTL⟩ := tl_mk (W := W) (ga := ga) (g := g) (m := m) (ls := ls2) (ts := ts2) (mv := mv2) (b := b10) (CS := boxC x A1 c1 A6 c6) x.f4 x.f3
        have HTL := Aside0.mk hTL
        clear hTL
        try clear z0 z1 z2 z3 z4 z5 z6
        go_upto_region 30 with (fail)
        obtain ⟨_, _, _, z3, z4, _, _, z7⟩ := cs8 HT.out
        go_region_held3 (fun w' : World => w'.cell? ⟨b10, 3, none⟩ = some (.int .i64 x.f3) ∧ w'.cell? ⟨b10, 4, none⟩ = some (.int .i64 x.f4) ∧ w'.cell? ⟨g, 3, none⟩ = some (.int .i64 mv2)) (first | go_keep | (exact ⟨(cs8 HV5.out).2.2.2.1, (cs8 HV5.out).2.2.2.2.1, (cs8 HV5.out).2.2.2.2.2.2.2⟩) | (exact ⟨(cs8 HV4.out).2.2.2.1, (cs8 HV4.out).2.2.2.2.1, (cs8 HV4.out).2.2.2.2.2.2.2⟩) | (exact ⟨(cs8 HV3.out).2.2.2.1, (cs8 HV3.out).2.2.2.2.1, (cs8 HV3.out).2.2.2.2.2.2.2⟩) | (exact ⟨(cs8 HV2.out).2.2.2.1, (cs8 HV2.out).2.2.2.2.1, (cs8 HV2.out).2.2.2.2.2.2.2⟩) | (exact ⟨(cs8 HV1.out).2.2.2.1, (cs8 HV1.out).2.2.2.2.1, (cs8 HV1.out).2.2.2.2.2.2.2⟩)) (first
          | (go_at_call 13; refine (HTL.out.ta _ (HT.out.below (by repeat' first | exact Below.refl _ _ | apply below_drew))).mono ?_; rintro e v1 ⟨rfl, hv1⟩; have HV1 := Aside0.mk hv1; clear hv1 HT)
          | (go_at_call 31; refine (HTL.out.tb _ (HV1.out.below (by repeat' first | exact Below.refl _ _ | apply below_drew))).mono ?_; rintro e v2 ⟨rfl, hv2⟩; have HV2 := Aside0.mk hv2; clear hv2 HV1)
          | (go_at_call 32; refine (HTL.out.tc _ (HV2.out.below (by repeat' first | exact Below.refl _ _ | apply below_drew))).mono ?_; rintro e v3 ⟨rfl, hv3⟩; have HV3 := Aside0.mk hv3; clear hv3 HV2)
          | (go_at_call 20; refine (HTL.out.td _ (HV3.out.below (by repeat' first | exact Below.refl _ _ | apply below_drew))).mono ?_; rintro e v4 ⟨rfl, hv4⟩; have HV4 := Aside0.mk hv4; clear hv4 HV3)
          | (go_at_call 33; refine (HTL.out.te _ (HV4.out.below (by repeat' first | exact Below.refl _ _ | apply below_drew))).mono ?_; rintro e v5 ⟨rfl, hv5⟩; have HV5 := Aside0.mk hv5; clear hv5 HV4))
        clear z3 z4 z7
        go_wp2_with fail
        go_roundw
        case rel => exact ⟨i + 1, ls2, ts2, mv2, by omega, by omega, by go_num, by omega, by omega, by omega, ⟨HV5.out.out.unbox⟩⟩
        case measure => (simp [intOf]; omega)
    · have b0 : decide ((i : Int) < (L : Int)) = false := by simp; omega
      go_wp2_with (first | (go_at_call 34; (with_reducible refine (HAL.out _ HS.out).mono ?_); rintro e w9 ⟨rfl, hb9⟩; have HB9 := Aside0.mk hb9; clear hb9))
      (try go_ret)
      exact ⟨rfl, HB9.out⟩
theorem heapRuns_walk (words : Int) (A0 : Option Addr) (c0 : Nat) (l : List S35) (W : World) (hC : Kd.C k35 W A0 l.length l) (hg : ∀ x ∈ l, inR x.f5 ∧ ∀ r ∈ x.f6, inR r) :
    Calls Try.prog 7 #[.int .i64 words, .slice A0 l.length c0] W fun e W' => e = .returned (.bool true) ∧ Below W.heap.size W W' := runs_x words A0 c0 l l.length W hC hg (Kd.C_max hC)
end Go.Proofs.Ytibhjlmffgabgaa.PAll
