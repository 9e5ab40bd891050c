import Derived.Test.YtibhjlmffgabgaaZRunKinds
namespace Go.Proofs.Ytibhjlmffgabgaa.PAll
open Go.RowKit Go.Proofs.YtibhjlmffgabgaaW.PrintWords Go.Proofs.YtibhjlmffgabgaaW.PrintLast Go.Proofs.YtibhjlmffgabgaaW.PrintMore
open Go.Proofs.Ytibhjlmffgabgaa.MapInt
set_option linter.unusedVariables false
set_option linter.unusedSimpArgs false
def blockOf (n : Nat) : Code → Option Code
  | .block k c => if k = n then some (.block k c) else blockOf n c
  | .seq a b => match blockOf n a with
    | some c => some c
    | none => blockOf n b
  | .cond _ a b => match blockOf n a with
    | some c => some c
    | none => blockOf n b
  | .loop c => blockOf n c
  | .scope c => blockOf n c
  | _ => none
noncomputable def blk2 : Code := ((Try.f7.body.bind (blockOf 2)).getD .skip)
set_option maxHeartbeats 16000000 in
set_option maxRecDepth 100000 in
theorem kind2_x {W wb : World} {ga g m b10 i : Nat} {ls : List SH} {ts : List TH} {mv : Int} {x : S35} {A1 : Option Addr} {c1 : Nat} {A6 : Option Addr} {c6 : Nat} {s0 s1 s2 s3 s4 s6 s8 s9 s11 s12 s13 s14 s15 s16 s17 s18 s19 s20 s21 s22 s23 s24 s25 s26 s27 s28 s29 s30 s31 s32 s33 s34 s35 s36 s37 s38 s39 s40 s41 s42 s43 s44 s45 s46 s47 s48 s49 s50 s51 s52 s53 s54 s55 s56 s57 s59 s60 s61 s62 s63 s64 s65 s66 s67 s68 s69 s70 s71 s72 s73 s74 s75 s76 s77 s78 s79 s80 s81 s82 s83 s84 s85 s86 s87 s88 s89 s90 s91 s92 s93 s94 s95 s96 s97 s98 s99 s100 s101 s102 s103 s104 s105 s106 s107 s108 s109 s110 s111 s112 s113 s114 s115 s116 s117 s118 s119 s120 s121 s122 s123 s124 s125 s126 s127 s128 s129 s130 s131 s132 s133 s134 s135 s136 s137 s138 s139 s140 s141 s142 s143 s144 s145 s146 s147 s148 s149 s150 s151 s152 s153 s154 s155 s156 s157 s158 s159 s160 s161 s162 s163 s164 s165 s166 s167 s168 s169 s170 s171 s172 s173 s174 s175 s176 s177 s178 s179 s180 s181 s182 s183 s184 s185 s186 s187 s188 s189 s190 s191 s192 s193 s194 s195 s196 s197 s198 s199 s200 s201 : Value} {K K1 : Act → World → Prop} {Q' : Exit → Act → World → Prop}
    (hk : x.f0 = 2) (hls : ls.length ≤ i) (hmv0 : 0 ≤ mv) (hmv1 : mv ≤ i) (HR : Aside0 (RR W wb ga g m ls ts mv b10 (boxC x A1 c1 A6 c6)))
    (hK : ∀ (u39 u40 u41 u42 u43 u44 u45 u46 u47 u48 u49 u50 u51 u52 u53 u54 u55 u56 u57 u58 u59 u60 u61 u62 u63 u64 u65 u66 u67 u68 u69 u70 u71 u72 u73 u74 u75 u76 u77 u78 u79 u80 u81 u82 u83 u84 u85 u86 u87 u88 u89 u90 u91 u92 u93 u94 u95 u96 u97 u98 u99 u100 u101 u102 u103 u104 u105 u106 u107 u108 u109 u110 u111 u112 u113 u114 u115 u116 u117 u118 u119 u120 u121 u122 u123 u124 u125 u126 u127 u128 u129 u130 u131 u132 u133 u134 u135 u136 u137 u138 u139 u140 u141 u142 u143 u144 u145 u146 u147 u148 u149 u150 u151 u152 u153 u154 u155 u156 u157 u158 u159 u160 u161 u162 u163 u164 u165 u166 u167 u168 u169 u170 u171 u172 u173 u174 u175 u176 u177 u178 u179 u180 u181 u182 u183 u184 u185 u186 u187 u188 u189 u190 u191 u192 u193 u194 u195 u196 u197 u198 : Value) (wx : World), (∃ (ls2 : List SH) (ts2 : List TH) (mv2 : Int), ls2.length ≤ i + 1 ∧ 0 ≤ mv2 ∧ mv2 ≤ i + 1 ∧ Aside0 (RR W wx ga g m ls2 ts2 mv2 b10 (boxC x A1 c1 A6 c6))) → K ⟨#[s0, s1, s2, s3, s4, .pointer (some ⟨ga, 0, none⟩), s6, .pointer (some ⟨g, 0, none⟩), s8, s9, .pointer (some ⟨b10, 0, none⟩), s11, s12, s13, s14, s15, s16, s17, s18, s19, s20, s21, s22, s23, s24, s25, s26, s27, s28, s29, s30, s31, s32, s33, s34, s35, s36, s37, s38, u39, u40, u41, u42, u43, u44, u45, u46, u47, u48, u49, u50, u51, u52, u53, u54, u55, u56, u57, u58, u59, u60, u61, u62, u63, u64, u65, u66, u67, u68, u69, u70, u71, u72, u73, u74, u75, u76, u77, u78, u79, u80, u81, u82, u83, u84, u85, u86, u87, u88, u89, u90, u91, u92, u93, u94, u95, u96, u97, u98, u99, u100, u101, u102, u103, u104, u105, u106, u107, u108, u109, u110, u111, u112, u113, u114, u115, u116, u117, u118, u119, u120, u121, u122, u123, u124, u125, u126, u127, u128, u129, u130, u131, u132, u133, u134, u135, u136, u137, u138, u139, u140, u141, u142, u143, u144, u145, u146, u147, u148, u149, u150, u151, u152, u153, u154, u155, u156, u157, u158, u159, u160, u161, u162, u163, u164, u165, u166, u167, u168, u169, u170, u171, u172, u173, u174, u175, u176, u177, u178, u179, u180, u181, u182, u183, u184, u185, u186, u187, u188, u189, u190, u191, u192, u193, u194, u195, u196, u197, u198, s199, s200, s201], []⟩ wx)
    (hC : ∀ (u39 u40 u41 u42 u43 u44 u45 u46 u47 u48 u49 u50 u51 u52 u53 u54 u55 u56 u57 u58 u59 u60 u61 u62 u63 u64 u65 u66 u67 u68 u69 u70 u71 u72 u73 u74 u75 u76 u77 u78 u79 u80 u81 u82 u83 u84 u85 u86 u87 u88 u89 u90 u91 u92 u93 u94 u95 u96 u97 u98 u99 u100 u101 u102 u103 u104 u105 u106 u107 u108 u109 u110 u111 u112 u113 u114 u115 u116 u117 u118 u119 u120 u121 u122 u123 u124 u125 u126 u127 u128 u129 u130 u131 u132 u133 u134 u135 u136 u137 u138 u139 u140 u141 u142 u143 u144 u145 u146 u147 u148 u149 u150 u151 u152 u153 u154 u155 u156 u157 u158 u159 u160 u161 u162 u163 u164 u165 u166 u167 u168 u169 u170 u171 u172 u173 u174 u175 u176 u177 u178 u179 u180 u181 u182 u183 u184 u185 u186 u187 u188 u189 u190 u191 u192 u193 u194 u195 u196 u197 u198 : Value), K1 ⟨#[s0, s1, s2, s3, s4, .pointer (some ⟨ga, 0, none⟩), s6, .pointer (some ⟨g, 0, none⟩), s8, s9, .pointer (some ⟨b10, 0, none⟩), s11, s12, s13, s14, s15, s16, s17, s18, s19, s20, s21, s22, s23, s24, s25, s26, s27, s28, s29, s30, s31, s32, s33, s34, s35, s36, s37, s38, u39, u40, u41, u42, u43, u44, u45, u46, u47, u48, u49, u50, u51, u52, u53, u54, u55, u56, u57, u58, u59, u60, u61, u62, u63, u64, u65, u66, u67, u68, u69, u70, u71, u72, u73, u74, u75, u76, u77, u78, u79, u80, u81, u82, u83, u84, u85, u86, u87, u88, u89, u90, u91, u92, u93, u94, u95, u96, u97, u98, u99, u100, u101, u102, u103, u104, u105, u106, u107, u108, u109, u110, u111, u112, u113, u114, u115, u116, u117, u118, u119, u120, u121, u122, u123, u124, u125, u126, u127, u128, u129, u130, u131, u132, u133, u134, u135, u136, u137, u138, u139, u140, u141, u142, u143, u144, u145, u146, u147, u148, u149, u150, u151, u152, u153, u154, u155, u156, u157, u158, u159, u160, u161, u162, u163, u164, u165, u166, u167, u168, u169, u170, u171, u172, u173, u174, u175, u176, u177, u178, u179, u180, u181, u182, u183, u184, u185, u186, u187, u188, u189, u190, u191, u192, u193, u194, u195, u196, u197, u198, s199, s200, s201], []⟩ wb) :
    Code.wp Try.prog blk2 (Exit.then K (Exit.inBlock 1 (Exit.then K1 Q'))) ⟨#[s0, s1, s2, s3, s4, .pointer (some ⟨ga, 0, none⟩), s6, .pointer (some ⟨g, 0, none⟩), s8, s9, .pointer (some ⟨b10, 0, none⟩), s11, s12, s13, s14, s15, s16, s17, s18, s19, s20, s21, s22, s23, s24, s25, s26, s27, s28, s29, s30, s31, s32, s33, s34, s35, s36, s37, s38, s39, s40, s41, s42, s43, s44, s45, s46, s47, s48, s49, s50, s51, s52, s53, s54, s55, s56, s57, .int .i64 x.f0, s59, s60, s61, s62, s63, s64, s65, s66, s67, s68, s69, s70, s71, s72, s73, s74, s75, s76, s77, s78, s79, s80, s81, s82, s83, s84, s85, s86, s87, s88, s89, s90, s91, s92, s93, s94, s95, s96, s97, s98, s99, s100, s101, s102, s103, s104, s105, s106, s107, s108, s109, s110, s111, s112, s113, s114, s115, s116, s117, s118, s119, s120, s121, s122, s123, s124, s125, s126, s127, s128, s129, s130, s131, s132, s133, s134, s135, s136, s137, s138, s139, s140, s141, s142, s143, s144, s145, s146, s147, s148, s149, s150, s151, s152, s153, s154, s155, s156, s157, s158, s159, s160, s161, s162, s163, s164, s165, s166, s167, s168, s169, s170, s171, s172, s173, s174, s175, s176, s177, s178, s179, s180, s181, s182, s183, s184, s185, s186, s187, s188, s189, s190, s191, s192, s193, s194, s195, s196, s197, s198, s199, s200, s201], []⟩ wb := by
  conv => arg 2; whnf
  have e0 : (x.f0 == 0) = false := by simp; omega
  have e1 : (x.f0 == 1) = false := by simp; omega
  have e2 : (x.f0 == 2) = true := by simp; omega
  clear hk
  obtain ⟨z0, z1, z2, z3, z4, z5, z6⟩ := cs7 HR.out.bx
  obtain ⟨M, sz, mk, hmp, hc1, hc2, hc3, hc4⟩ := k2_mk (W := W) (ga := ga) (g := g) (m := m) (ls := ls) (ts := ts) (mv := mv) (b := b10) (CS := boxC x A1 c1 A6 c6) x.f2 x.f3
  have HMP := Aside0.mk hmp
  have HC1 := Aside0.mk hc1
  have HC2 := Aside0.mk hc2
  have HC3 := Aside0.mk hc3
  have HC4 := Aside0.mk hc4
  clear hmp hc1 hc2 hc3 hc4
  obtain ⟨ath, cth, z8⟩ := HR.out.out.cells.1
  go_upto_region 21 with (fail)
  go_cut [110] from 39 to 198 (fun v110 wx => ∃ sk : Bool, v110 = .bool sk ∧ wx = wb)
  case first =>
    by_cases hq1 : 5000 < x.f3
    · have q1 : decide ((5000 : Int) < x.f3) = true := by simp; omega
      by_cases hq2 : x.f3 < 200000
      · have q2 : decide (x.f3 < (200000 : Int)) = true := by simp; omega
        clear hq1 hq2
        go_wp2_with (fail)
        go_meet
        case rel => exact ⟨_, rfl, rfl⟩
      · have q2 : decide (x.f3 < (200000 : Int)) = false := by simp; omega
        clear hq1 hq2
        generalize (ts.length : Int) = tl at *
        generalize hq3 : decide ((150 : Int) < tl) = q3 at *
        go_wp2_with (fail)
        go_meet
        case rel => exact ⟨_, rfl, rfl⟩
    · have q1 : decide ((5000 : Int) < x.f3) = false := by simp; omega
      clear hq1
      go_wp2_with (fail)
      go_meet
      case rel => exact ⟨_, rfl, rfl⟩
  case rest =>
    obtain ⟨sk, rfl, rfl⟩ := hcut
    cases sk with
    | true =>
      go_wp2_with (fail)
      exact hC _ _ _ _ _ _ _ _ _ _ _ _ _ _ _ _ _ _ _ _ _ _ _ _ _ _ _ _ _ _ _ _ _ _ _ _ _ _ _ _ _ _ _ _ _ _ _ _ _ _ _ _ _ _ _ _ _ _ _ _ _ _ _ _ _ _ _ _ _ _ _ _ _ _ _ _ _ _ _ _ _ _ _ _ _ _ _ _ _ _ _ _ _ _ _ _ _ _ _ _ _ _ _ _ _ _ _ _ _ _ _ _ _ _ _ _ _ _ _ _ _ _ _ _ _ _ _ _ _ _ _ _ _ _ _ _ _ _ _ _ _ _ _ _ _ _ _ _ _ _ _ _ _ _ _ _ _ _ _ _
    | false =>
      go_upto_region 22 with (fail)
      clear z0 z1 z4 z5 z6
      go_region_held3 (fun w' : World => w'.cell? ⟨b10, 2, none⟩ = some (.int .i64 x.f2) ∧ w'.cell? ⟨b10, 3, none⟩ = some (.int .i64 x.f3)) (first | go_keep | (exact ⟨(cs7 (HS4.out.bx)).2.2.1, (cs7 (HS4.out.bx)).2.2.2.1⟩) | (exact ⟨(cs7 (HMP.out.bx _ HM.out)).2.2.1, (cs7 (HMP.out.bx _ HM.out)).2.2.2.1⟩) | (exact ⟨(cs7 (HS2.out.bx)).2.2.1, (cs7 (HS2.out.bx)).2.2.2.1⟩) | (exact ⟨(cs7 (HS1.out.bx)).2.2.1, (cs7 (HS1.out.bx)).2.2.2.1⟩)) (first
        | (go_at_call 25; refine (HC1.out _ (HR.out.below (by repeat' first | exact Below.refl _ _ | apply below_drew))).mono ?_; rintro e w1 ⟨rfl, hs1⟩; have HS1 := Aside0.mk hs1; clear hs1 HR)
        | (go_at_call 26; refine (HC2.out _ (HS1.out.below (by repeat' first | exact Below.refl _ _ | apply below_drew))).mono ?_; rintro e w2 ⟨rfl, hs2⟩; have HS2 := Aside0.mk hs2; clear hs2 HS1)
        | (go_at_call 12; refine (HC3.out _ (HS2.out.below (by repeat' first | exact Below.refl _ _ | apply below_drew))).mono ?_; rintro e w3 ⟨rfl, hm3⟩; have HM := Aside0.mk hm3; clear hm3 HS2)
        | (go_at_call 27; refine (HC4.out _ (HMP.out.bel _ _ HM.out (by repeat' first | exact Below.refl _ _ | apply below_drew))).mono ?_; rintro e w4 ⟨rfl, ts2, hs4⟩; have HS4 := Aside0.mk hs4; clear hs4 HM))
      clear z2 z3
      go_wp2_with fail
      exact ⟨ls, ts2, mv, by omega, by omega, by omega, ⟨HS4.out⟩⟩
end Go.Proofs.Ytibhjlmffgabgaa.PAll
