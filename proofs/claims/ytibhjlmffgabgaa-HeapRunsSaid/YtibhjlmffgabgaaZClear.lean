import Derived.Test.YtibhjlmffgabgaaZClearK
import Derived.Test.YtibhjlmffgabgaaZG1
import Derived.Deep.LoopGhost
namespace Go.Proofs.Ytibhjlmffgabgaa.PAll
open Go.RowKit Go.Proofs.YtibhjlmffgabgaaW.PrintWords Go.Proofs.YtibhjlmffgabgaaW.PrintLast Go.Proofs.YtibhjlmffgabgaaW.PrintMore
open Go.Proofs.Ytibhjlmffgabgaa.MapInt
set_option linter.unusedVariables false
set_option linter.unusedSimpArgs false
theorem zi3 (w : World) : (zeroValue 3).run Try.prog w = .ok (.int .i64 0) w := by
  have hi := info3d
  cases hp : Try.prog.info? 3 with
  | none => simp [hp] at hi
  | some i =>
    have hiz : i.zero = some (.int .i64 0) := by have := congrArg (Option.map (·.1)) hi; simpa [hp] using this
    simp [zeroValue, typeInfo, hp, hiz, Result.andThen]
theorem CK.ta {W w : World} {base g gw gs m bs bt ns nt : Nat} {P : Nat → Prop} {sts : List Bool} {nx mv : Int} {shV : Value} {shs : List S65} {S : Int → Bool} {f : Int → Option Int} {pre R : List Int} {n : Nat} {t : Thg}
    (h : CK W w base P g gw gs m (pre ++ encT shs t ++ R) sts nx mv shV shs bs bt ns nt S f) (hl : pre.length = n) (h1 : 1 ≤ n) (h2 : (n : Int) < nx) (hx : nx ≤ (m : Int)) (hm : m ≤ 65537) (hs : sts.getD n false = true) (hok : okT shs t) (hfit : n + tsz shs t ≤ m) : TA w base P g gw gs m (pre ++ encT shs t ++ R) sts nx mv shV shs n t.s t.xs.length := by
  subst hl
  obtain ⟨e1, e2⟩ := ws_head shs pre R t
  refine ⟨h.am, h1, h2, hx, hm, hs, e1, hok.1, fun hf => ⟨e2 hf, ?_⟩, hok.2.1⟩
  have : tsz shs t = 2 + t.xs.length := by unfold tsz; rw [if_pos hf]
  omega
theorem sts_at (shs : List S65) (D R : List Thg) (t : Thg) (J : List Bool) : ([false] ++ (D ++ t :: R).flatMap (begT shs) ++ J).getD (1 + sumT shs D) false = true := by
  have e : [false] ++ (D ++ t :: R).flatMap (begT shs) ++ J = ([false] ++ D.flatMap (begT shs)) ++ (true :: (List.replicate (tsz shs t - 1) false ++ R.flatMap (begT shs) ++ J)) := by
    rw [List.flatMap_append, List.flatMap_cons]; unfold begT; simp [List.append_assoc]
  have hl : ([false] ++ D.flatMap (begT shs)).length = 1 + sumT shs D := by rw [List.length_append, begs_len]; rfl
  rw [e, List.getD_eq_getElem?_getD, List.getElem?_append_right (by omega), hl, Nat.sub_self]
  rfl
theorem ck_start {w w1 w2 : World} {base g gw gs m bs ns : Nat} {P : Nat → Prop} {ws : List Int} {sts : List Bool} {nx mv : Int} {shV : Value} {shs : List S65} {S : Int → Bool} (hM : AM w1 base P g gw gs m ws sts nx mv shV shs) (hP : ∀ k, P k → k < w.heap.size) (hc : Chg P w w1) (hk : ∀ k, P k → k ≠ g ∧ k ≠ gw ∧ k ≠ gs → w1.heap[k]? = w.heap[k]?)
    (hb : BM Try.prog w2 bs ns S) (h2 : Below w1.heap.size w1 w2) (hbs : w1.heap.size ≤ bs) : CK w (w2.alloc (.map #[] 0)) base P g gw gs m ws sts nx mv shV shs bs w2.heap.size ns 0 S (toF shs S [] 1 1) := by
  have h3 : Below w2.heap.size w2 (w2.alloc (.map #[] 0)) := (Below.refl _ _).alloc (Nat.le_refl _) _
  have h4 := below_step h2 h3
  have hs1 := hc.size
  have hs2 := h2.size
  have hlt := hb.lt
  refine ⟨hM.below h4, hP, hc.trans (Chg.of_below (P := P) h4) (fun k hk => .inl hk), fun k hk1 hn => (h4.block k (by have := hP k hk1; omega)).trans (hk k hk1 hn), hb.below h3, (IM.made Try.prog w2).ext (fun k _ => rfl), by omega, by omega, by omega⟩
theorem own_lower {w : World} {B B' n size : Nat} {e : TypeId} {v : Value} {xs : List Value} (h : w.ownsRow B e size v n xs) (hb : B' ≤ B) : w.ownsRow B' e size v n xs := by
  obtain ⟨h1, h2⟩ := h
  refine ⟨h1, h2.imp id (fun ⟨g, cap, cur, h3, h4, h5⟩ => ⟨g, cap, cur, h3, Nat.le_trans hb h4, h5⟩)⟩
theorem clr_all {α : Type} {L : List α} {m : Nat} (z : α) (h : L.length = m) : L.take 0 ++ List.replicate m z ++ L.drop (0 + m) = List.replicate m z := by
  rw [List.drop_eq_nil_of_le (by omega)]; simp
theorem CK.drew {W w : World} {base g gw gs m bs bt ns nt : Nat} {P : Nat → Prop} {ws : List Int} {sts : List Bool} {nx mv : Int} {shV : Value} {shs : List S65} {S : Int → Bool} {f : Int → Option Int} (h : CK W w base P g gw gs m ws sts nx mv shV shs bs bt ns nt S f) : CK W w.drew base P g gw gs m ws sts nx mv shV shs bs bt ns nt S f := h.below (below_drew (Below.refl _ _))
theorem CK.word {W w : World} {base g gw gs m bs bt ns nt : Nat} {P : Nat → Prop} {ws : List Int} {sts : List Bool} {nx mv : Int} {shV : Value} {shs : List S65} {S : Int → Bool} {f : Int → Option Int} (h : CK W w base P g gw gs m ws sts nx mv shV shs bs bt ns nt S f) {k : Nat} (hk : k < m) (x : Int) : CK W (w.setCell ⟨gw, k, none⟩ (.int .i64 x)) base P g gw gs m (ws.set k x) sts nx mv shV shs bs bt ns nt S f ∧ w.grownBy (w.setCell ⟨gw, k, none⟩ (.int .i64 x)) (some gw) := by
  obtain ⟨h1, h2, _⟩ := setCell_blk (q := k) (v := .int .i64 x) h.am.wds (by rw [wC_size, h.am.lw]; exact hk)
  rw [wC_set] at h1
  exact ⟨h.putw h1 h2 (by rw [List.length_set]; exact h.am.lw), h2⟩
theorem CK.look {W w : World} {base g gw gs m bs bt ns nt : Nat} {P : Nat → Prop} {ws : List Int} {sts : List Bool} {nx mv : Int} {shV : Value} {shs : List S65} {S : Int → Bool} {f : Int → Option Int} (h : CK W w base P g gw gs m ws sts nx mv shV shs bs bt ns nt S f) {x : Int} (hx : inR x) : (Instr.lookup 68 (.map (some bt)) (.int .i64 x) false).run Try.prog w = .ok (.int .i64 (ref1 f x)) w := h.tm.get Try.underlying3 Try.underlying68 (zi3 _) hx false
set_option maxHeartbeats 16000000 in
set_option maxRecDepth 100000 in
theorem clear_calls {w : World} {base g most : Nat} {P : Nat → Prop} {shs : List S65} {T : List Thg} {mv : Int} (h : AS w base P g most shs T mv) (hmv : 0 ≤ mv ∧ mv ≤ 1000000000) {A : Option Addr} {c : Nat} {roots : List Int} (hrk : ∀ w', Chg P w w' → Kd.C (Kd.int .i64) w' A roots.length roots) (hc : roots.length ≤ c) (hin : ∀ r ∈ roots, inR r) (hrl : roots.length ≤ 1000000) :
    Calls Try.prog 14 #[.pointer (some ⟨g, 0, none⟩), .slice A roots.length c] w fun e w' => ∃ S v, e = .returned v ∧ (∀ x, S x = true ↔ Rch shs T roots x) ∧ w'.ownsRow w.heap.size 3 1 v roots.length (nums .i64 (roots.map (ref1 (newF shs S T)))) ∧ AS w' base P g most shs (clrT shs S T) (mv + 1) ∧ Chg P w w' := by
  obtain ⟨gw, gs, shV, w0, junk, hM⟩ := h.mem
  have HS := Aside0.mk h
  have HPM : Aside0 (∀ k, (P k ∧ k < w.heap.size) → P k) := ⟨fun k hk => hk.1⟩
  have HPL : Aside0 (∀ k, (P k ∧ k < w.heap.size) → k < w.heap.size) := ⟨fun k hk => hk.2⟩
  replace hM := hM.bound
  have HCP : Aside0 (∀ w', Chg (fun k => P k ∧ k < w.heap.size) w w' → Chg P w w') := ⟨fun w' hh => hh.mono (fun k hk => .inl hk.1)⟩
  have HFIN : Aside0 (∀ w' sts' junk' w0' T', AM w' base (fun k => P k ∧ k < w.heap.size) g gw gs (most + 1) ([w0'] ++ T'.flatMap (encT shs) ++ junk') ([false] ++ T'.flatMap (begT shs) ++ sts') ((1 + sumT shs T' : Nat) : Int) (mv + 1) shV shs → AM w' base P g gw gs (most + 1) ([w0'] ++ T'.flatMap (encT shs) ++ junk') ([false] ++ T'.flatMap (begT shs) ++ sts') ((1 + sumT shs T' : Nat) : Int) (mv + 1) shV shs) := ⟨fun w' sts' junk' w0' T' hh => hh.mono (fun k hk => hk.1)⟩
  generalize hP0 : (fun k => P k ∧ k < w.heap.size) = P0 at hM HCP HFIN
  have HPL : Aside0 (∀ k, P0 k → k < w.heap.size) := ⟨fun k hk => by subst hP0; exact hk.2⟩
  clear HPM
  have HM := Aside0.mk hM
  have HR := Aside0.mk hrk
  have HIN := Aside0.mk hin
  have hT : T.length ≤ 65536 := by have := len_sum shs T; have := h.room; have := h.bnd; omega
  have hsz : 1 + sumT shs T ≤ most + 1 ∧ most + 1 ≤ 65537 := by have := h.room; have := h.bnd; omega
  have hmk : ∀ w : World, (Instr.makeMap 68 none).run Try.prog w = .ok (.map (some w.heap.size)) (w.alloc (.map #[] 0)) := fun w => by simp [Instr.makeMap, run_underlying Try.underlying68, Result.andThen]
  have c4 := hM.c4
  clear h hM hrk hin hP0
  go_enter Try.func14, Try.ntmps14
  go_wp2_with (first | ((with_reducible refine gate_store (t := 3) (p := 29) (v := .tmp 27) rfl ?_); (refine cell_store rfl 3 (.tmp 29) (.tmp 27) rfl oi3 (q := 4) (v := .int .i64 (mv + 1)) rfl rfl rfl HM.out.box (show (4 : Nat) < 5 by decide) ?_; intro w1 hb1 hg1 _; have HMg := Aside0.mk (HM.out.putg (nx2 := ((1 + sumT shs T : Nat) : Int)) (mv2 := mv + 1) hb1 hg1); have HCH := Aside0.mk (Chg.grow (Chg.refl (P := P0) (w := w)) hg1 (.inl HM.out.pg)); have HKP : Aside0 (∀ k, P0 k → k ≠ g ∧ k ≠ gw ∧ k ≠ gs → w1.heap[k]? = w.heap[k]?) := ⟨fun k hk hn => hg1.block k (HPL.out k hk) (fun e => hn.1 (by injection e))⟩; have HS1 : Aside0 (AS w1 base P0 g most shs T (mv + 1)) := ⟨⟨HS.out.bnd, HS.out.room, HS.out.things, HS.out.shl, HS.out.wrd, gw, gs, shV, w0, junk, HMg.out⟩⟩; clear hb1 hg1 c4)) | (go_at_call 36; (with_reducible refine (mark_calls HS1.out (HR.out w1 (HCP.out w1 HCH.out)) hc HIN.out).mono ?_); rintro e w2 ⟨bs, S, ns, rfl, hbm, hns, hS, hb2, hbs⟩; have HRCH := Aside0.mk hS; have HCK : Aside0 (CK w (w2.alloc (.map #[] 0)) base P0 g gw gs (most + 1) ([w0] ++ T.flatMap (encT shs) ++ junk) ([false] ++ T.flatMap (begT shs) ++ List.replicate (most - sumT shs T) false) ((1 + sumT shs T : Nat) : Int) (mv + 1) shV shs bs w2.heap.size ns 0 S (toF shs S [] 1 1)) := ⟨ck_start HMg.out HPL.out HCH.out HKP.out hbm hb2 hbs⟩; have hbt := HCK.out.hbt; clear hS hbm hb2 hbs HMg HM HKP HCH HS1))
  generalize w2.heap.size = bt at *
  generalize w2.alloc (.map #[] 0) = w3 at *
  have hws : ([w0] ++ T.flatMap (encT shs) ++ junk).length = most + 1 := HCK.out.am.lw
  generalize hm : most + 1 = m at *
  generalize hnx : 1 + sumT shs T = nx at *
  go_loopw [7, 8] (fun v7 v8 wr => ∃ (D R : List Thg) (nt : Nat), T = D ++ R ∧ nt ≤ D.length ∧ v8 = .int .i64 ((1 + sumT shs D : Nat) : Int) ∧ v7 = .int .i64 ((1 + sumT shs (keepT shs S D 1) : Nat) : Int) ∧ Aside0 (CK w wr base P0 g gw gs m ([w0] ++ T.flatMap (encT shs) ++ junk) ([false] ++ T.flatMap (begT shs) ++ List.replicate (most - sumT shs T) false) (nx : Int) (mv + 1) shV shs bs bt ns nt S (toF shs S D 1 1))) (fun _ v8 _ => m + 5 - (intOf v8).toNat)
  case atStart => exact ⟨[], T, 0, rfl, Nat.le_refl _, rfl, rfl, HCK⟩
  case round =>
    clear HCK
    obtain ⟨D, R, nt, hTD, hnt, rfl, rfl, HC⟩ := hrel
    have c2 := HC.out.am.c2
    cases R with
    | nil =>
      rw [List.append_nil] at hTD
      subst hTD
      go_wp2_with fail
      have HC0 : Aside0 (CK w wr base P0 g gw gs m (wsM shs w0 (keepT shs S [] 1) [] T junk) ([false] ++ T.flatMap (begT shs) ++ List.replicate (most - sumT shs T) false) (nx : Int) (mv + 1) shV shs bs bt ns nt S (newF shs S T)) := ⟨by
        have := HC.out
        unfold wsM keepT
        simp only [List.flatMap_nil, List.append_nil]
        exact this⟩
      have HFR : Aside0 (∀ x y, newF shs S T x = some y → 1 ≤ y ∧ y < 1 + sumT shs (keepT shs S T 1)) := ⟨fun x y hxy => by have := toF_range shs S T 1 1 x y hxy; omega⟩
      generalize hcn : 1 + sumT shs (keepT shs S T 1) = cn at *
      have hcn2 : cn ≤ nx := by have := keep_sum shs S T 1; omega
      clear HC c2
      simp only [hnx]
      go_loopw [10] (fun v10 wr => ∃ (D R : List Thg) (mid : List Int), T = D ++ R ∧ mid.length + sumT shs (keepT shs S D 1) = sumT shs D ∧ v10 = .int .i64 ((1 + sumT shs D : Nat) : Int) ∧ Aside0 (CK w wr base P0 g gw gs m (wsM shs w0 ((keepT shs S D 1).map (mvT shs (newF shs S T))) mid R junk) ([false] ++ T.flatMap (begT shs) ++ List.replicate (most - sumT shs T) false) (nx : Int) (mv + 1) shV shs bs bt ns nt S (newF shs S T))) (fun v10 _ => m + 5 - (intOf v10).toNat)
      case atStart => exact ⟨[], T, [], rfl, rfl, rfl, HC0⟩
      case round =>
        clear HC0
        obtain ⟨D, R, mid, hTD, hmid, rfl, HC⟩ := hrel
        have c2 := HC.out.am.c2
        cases R with
        | nil =>
          rw [List.append_nil] at hTD
          subst hTD
          have c1 := HC.out.am.c1
          go_wp2_with (first | ((try (refine gate_guard (by rfl) ?_; dsimp only)); refine clear_blk (o' := 0) (n := m) (c := m) rfl rfl (.tmp 143) 60 rfl Try.underlying60 info4z rfl rfl rfl HC.out.am.stb (by rw [bC_size, HC.out.am.ls]; omega) ?_; intro w8 hb8 hg8; rw [bC_clear _ _ _ (by rw [HC.out.am.ls]; omega), clr_all false HC.out.am.ls] at hb8; have HC8 := Aside0.mk (HC.out.puts hb8 hg8 (by simp)); clear hb8 hg8 c1 c2) | (at_range; refine MapInt.rng Try.underlying3 rfl (.tmp 144) 68 rfl Try.underlying68 rfl HC8.out.tm ?_; intro w9 hrg9 hg9 hs9; have HP0 := Aside0.mk hrg9; have HG9 := Aside0.mk hg9; clear hrg9 hg9 hs9))
          (try go_frame)
          obtain ⟨cnt0, hrg⟩ := HP0.out
          have HCR := Aside0.mk (CR.start HC8.out hrg HG9.out)
          have hHW : w8.heap.size = w8.heap.size := rfl
          clear HP0 HG9 hrg HC8 HC
          generalize w8.heap.size = r at *
          simp only [hnx]
          go_loopg [] cnt0 (fun k wy => ∃ (sts : List Bool) (left : Int → Bool), Aside0 (CR w wy base P0 g gw gs m (wsM shs w0 ((keepT shs S T 1).map (mvT shs (newF shs S T))) mid [] junk) sts (nx : Int) (mv + 1) shV shs bs bt ns nt r k S (newF shs S T) left))
          case atStart => exact ⟨_, _, HCR⟩
          case round =>
            clear HCR hHW
            obtain ⟨sts, left, HCR⟩ := hrel
            go_wp2_with (first | (at_next; refine MapInt.nxt Try.underlying3 rfl (.tmp 145) rfl rfl HCR.out.rg ?_ ?_))
            · intro h0
              have HEND : Aside0 (sts = [false] ++ (clrT shs S T).flatMap (begT shs) ++ List.replicate (most - sumT shs (clrT shs S T)) false) := ⟨by
                have hkl := keep_sum shs S T 1
                refine sts_end (by rw [hm]; exact HCR.out.ck.am.ls) (by unfold clrT; rw [mvT_sum]; omega) (fun j hj => ?_)
                rw [HCR.out.hs j (by omega)]
                unfold clrT
                rw [mvT_find, Option.isSome_map]
                have h1 := toF_find shs S T 1 1 (j : Int)
                rw [← h1]
                constructor
                · rintro ⟨x, _, hx, _⟩; exact ⟨x, hx⟩
                · rintro ⟨x, hx⟩
                  have h2 := toF_range shs S T 1 1 x _ hx
                  have h3 : inR x := ⟨by omega, by omega⟩
                  exact ⟨x, h3, hx, h0 x h3⟩⟩
              have HCE := Aside0.mk HCR.out.ck
              clear HCR h0
              go_wp2_with (first | ((with_reducible refine gate_store (t := 3) (p := 159) (v := .tmp 157) rfl ?_); (refine cell_store rfl 3 (.tmp 159) (.tmp 157) rfl oi3 (q := 2) (v := .int .i64 (cn : Int)) rfl rfl rfl HCE.out.am.box (show (2 : Nat) < 5 by decide) ?_; intro w5 hb5 hg5 _; have HCN := Aside0.mk (HCE.out.putg (nx2 := (cn : Int)) (mv2 := mv + 1) hb5 hg5); clear hb5 hg5)))
              clear HCE
              have HAS : Aside0 (∀ wx, Below w5.heap.size w5 wx → AS wx base P g most shs (clrT shs S T) (mv + 1) ∧ Chg P w wx) := ⟨fun wx hb => by
                have hck := HCN.out.below hb
                have hkl := keep_sum shs S T 1
                have hcs : sumT shs (clrT shs S T) = sumT shs (keepT shs S T 1) := mvT_sum _ _ _
                have hkk : ∀ t ∈ clrT shs S T, ∃ u ∈ T, t = mvT shs (newF shs S T) u := fun t ht => by
                  obtain ⟨u, hu, rfl⟩ := List.mem_map.1 ht
                  exact ⟨u, keep_sub shs S T 1 u hu, rfl⟩
                refine ⟨⟨HS.out.bnd, by rw [hcs]; omega, fun t ht => ?_, HS.out.shl, fun t ht => ?_, gw, gs, shV, w0, mid ++ junk, ?_⟩, HCP.out wx hck.ch⟩
                · obtain ⟨u, hu, rfl⟩ := hkk t ht
                  exact mvT_ok (HS.out.things u hu)
                · obtain ⟨u, hu, rfl⟩ := hkk t ht
                  exact mvT_wrd (fun x y hxy => by have := HFR.out x y hxy; exact ⟨by omega, by omega⟩) (HS.out.wrd u hu)
                · rw [hm]
                  refine HFIN.out wx _ _ _ _ ?_
                  have h1 := hck.am
                  rw [HEND.out] at h1
                  have h2 : wsM shs w0 ((keepT shs S T 1).map (mvT shs (newF shs S T))) mid [] junk = [w0] ++ (clrT shs S T).flatMap (encT shs) ++ (mid ++ junk) := by unfold wsM clrT; simp [List.append_assoc]
                  rw [h2] at h1
                  rw [show ((1 + sumT shs (clrT shs S T) : Nat) : Int) = (cn : Int) by rw [hcs, hcn]]
                  exact h1⟩
              have hBW : w.heap.size ≤ w5.heap.size := HCN.out.ch.size
              go_loopw [18, 162] (fun v18 v162 wy => ∃ i : Nat, i ≤ roots.length ∧ v162 = .int .i64 i ∧ Aside0 (Below w5.heap.size w5 wy ∧ wy.ownsRow w5.heap.size 3 1 v18 i (nums .i64 ((roots.take i).map (ref1 (newF shs S T)))))) (fun _ v162 _ => roots.length - (intOf v162).toNat)
              case atStart => exact ⟨0, Nat.zero_le _, rfl, ⟨Below.refl _ _, own_nil _ _ _ _⟩⟩
              case round =>
                obtain ⟨i, hi, rfl, HO⟩ := hrel
                by_cases hlt : i < roots.length
                · have hlt' : (i : Int) < (roots.length : Int) := by omega
                  obtain ⟨ad, rfl, hcx⟩ := Kd.at_int (HR.out wr (HAS.out wr HO.out.1).2) (i : Int) (by omega) hlt'
                  rw [Int.toNat_natCast] at hcx
                  obtain ⟨q, hq⟩ : ∃ q, q = rd roots (i : Int) := ⟨_, rfl⟩
                  rw [← hq] at hcx
                  have hqR : inR q := HIN.out q (by rw [hq]; unfold rd; rw [Int.toNat_natCast, List.getD_eq_getElem?_getD, List.getElem?_eq_getElem hlt]; exact List.getElem_mem _)
                  have HTK : Aside0 (roots.take (i + 1) = roots.take i ++ [q]) := ⟨by rw [hq]; unfold rd; rw [Int.toNat_natCast, List.take_succ_eq_append_getElem hlt, List.getD_eq_getElem?_getD, List.getElem?_eq_getElem hlt]; rfl⟩
                  have HCI := Aside0.mk (HCN.out.below HO.out.1)
                  obtain ⟨A9, c9, rfl⟩ := own_slice' HO.out.2
                  have hi9 : i + 1 ≤ 1000000 := by omega
                  clear hq
                  go_wp2_with (first | (at_lookup; refine MapInt.look Try.underlying3 rfl (.tmp 167) (.tmp 168) 68 rfl Try.underlying68 (zi3 _) rfl HCI.out.tm rfl hqR ?_) | ((with_reducible refine gate_dst (N := 171) rfl ?_); at_builtin; (refine app_new rfl (.tmp 166) (.tmp 170) 30 3 (.int .i64 0) 1 8 rfl Try.underlying30 info3d rfl (by decide) rfl HO.out.2 _ 1 rfl rfl (fun u hu => by simp at hu; subst hu; rfl) (by omega) (by omega) HO.out.1.size ?_; intro v2 w6 ho hg; have HOW := Aside0.mk ho; have HG := Aside0.mk hg; clear ho hg)))
                  go_roundw
                  case rel =>
                    refine ⟨i + 1, by omega, by go_num, ⟨?_, ?_⟩⟩
                    · exact (HO.out.1.alloc HO.out.1.size _).grown HG.out (Nat.le_trans HO.out.1.size (by rw [sz_alloc]; omega)) (fun k hk => (own_row_lt HO.out.2 k hk).2)
                    · rw [HTK.out, List.map_append, nums_append]
                      exact HOW.out
                  case measure => (simp [intOf]; try omega)
                · have hlt' : ¬ (i : Int) < (roots.length : Int) := by omega
                  obtain rfl : i = roots.length := by omega
                  have HFA := Aside0.mk (HAS.out wr HO.out.1)
                  have HOR := Aside0.mk HO.out.2
                  rw [List.take_length] at HOR
                  go_wp2_with fail
                  (try go_ret)
                  exact ⟨S, _, rfl, HRCH.out, own_lower HOR.out hBW, HFA.out.1, HFA.out.2⟩
            · intro x y w4 cn' hx hlx hf hrg hlt4 hg4 hs4 hen
              obtain ⟨y1, y2⟩ := HFR.out x y hf
              obtain ⟨j, rfl⟩ : ∃ j : Nat, y = j := ⟨y.toNat, by omega⟩
              have hj : j < m := by omega
              have hjI : (j : Int) < (m : Int) := by omega
              have HCN := Aside0.mk (HCR.out.next hrg hg4)
              have HRG := Aside0.mk hrg
              have HF := Aside0.mk hf
              have c1 := HCN.out.am.c1
              clear hrg hg4 hs4 hlx hf y1 y2
              go_wp2_with (first | ((with_reducible refine gate_store (t := 4) (p := 155) rfl ?_); (refine cell_store rfl 4 (.tmp 155) _ rfl oi4 (q := j) (v := .bool true) rfl rfl rfl HCN.out.am.stb (by rw [bC_size, HCN.out.am.ls]; exact hj) ?_; intro w5 hb5 hg5 hz5; rw [bC_set] at hb5; have HCR2 := Aside0.mk (HCR.out.put HCN.out HRG.out hx HF.out hj hb5 hg5); clear hb5 hg5 hz5)))
              go_roundg cn'
              case measure => omega
              case rel => exact ⟨_, _, HCR2⟩
        | cons t R =>
          have hsum : sumT shs T = sumT shs D + tsz shs t + sumT shs R := by rw [hTD, sum_app, sum_cons]; omega
          have hpos := tsz_pos shs t
          have hlt : ((1 + sumT shs D : Nat) : Int) < (nx : Int) := by omega
          have htm : t ∈ T := by rw [hTD]; simp
          have hok := HS.out.things t htm
          have hshl := HS.out.shl t.s
          have hst : ([false] ++ T.flatMap (begT shs) ++ List.replicate (most - sumT shs T) false).getD (1 + sumT shs D) false = true := by rw [hTD]; exact sts_at shs D R t _
          obtain ⟨pre, hpre⟩ : ∃ pre, pre = [w0] ++ ((keepT shs S D 1).map (mvT shs (newF shs S T))).flatMap (encT shs) ++ mid := ⟨_, rfl⟩
          have hwe : wsM shs w0 ((keepT shs S D 1).map (mvT shs (newF shs S T))) mid (t :: R) junk = pre ++ encT shs t ++ (R.flatMap (encT shs) ++ junk) := by unfold wsM; rw [hpre, List.flatMap_cons]; simp [List.append_assoc]
          have hpl : pre.length = 1 + sumT shs D := by rw [hpre, List.length_append, List.length_append, flat_len, mvT_sum]; simp; omega
          rw [hwe] at HC
          have HTA := Aside0.mk (HC.out.ta hpl (by omega) hlt (by omega) hsz.2 hst hok (by omega))
          have HTD := Aside0.mk hTD
          have HSUM := Aside0.mk hsum
          have HWE := Aside0.mk hwe
          have HPRE := Aside0.mk hpre
          have HPL := Aside0.mk hpl
          have HMID := Aside0.mk hmid
          generalize ha : 1 + sumT shs D = a at *
          generalize hz : tsz shs t = z at *
          have HL : Aside0 (∀ wx, Below wr.heap.size wr wx → Calls Try.prog 35 #[.pointer (some ⟨g, 0, none⟩), .int .i64 (a : Int)] wx fun e w' => e = .returned (.int .i64 (t.xs.length : Int)) ∧ Below wx.heap.size wx w') := ⟨fun wx hb => len_ta (HTA.out.below hb)⟩
          have HZ : Aside0 (∀ wx, Below wr.heap.size wr wx → Calls Try.prog 25 #[.pointer (some ⟨g, 0, none⟩), .int .i64 (t.s : Int), .int .i64 (t.xs.length : Int)] wx fun e w' => e = .returned (.int .i64 (z : Int)) ∧ Below wx.heap.size wx w') := ⟨fun wx hb => size_ta (HTA.out.below hb) hshl hok.2.2 (by rw [← hz]; rfl)⟩
          have c0 := HTA.out.am.c0
          have cw := HTA.out.am.cw (i := a) (by omega)
          rw [HTA.out.hw] at cw
          obtain ⟨hz0, q1, q2, q3⟩ : 0 < z ∧ (0 : Int) ≤ (a : Int) ∧ (a : Int) < (m : Int) ∧ (a : Int) + (z : Int) ≤ 100000 := ⟨hpos, by omega, by omega, by omega⟩
          have HOK := Aside0.mk hok
          have hfit : a + z ≤ m := by omega
          have HWR := Aside0.mk (HS.out.wrd t htm)
          have HBE := Aside0.mk hst
          clear hTD hsum hpos htm hok hshl hst hwe hpl hpre hmid
          go_wp2_with fail
          go_region_held3 (fun w' => w'.cell? ⟨g, 0, none⟩ = some (.slice (some ⟨gw, 0, none⟩) m m) ∧ w'.cell? ⟨gw, a, none⟩ = some (.int .i64 t.s)) (first | go_keep | (refine ⟨bcell hb5 ?_, bcell hb5 ?_⟩ <;> go_keep) | (refine ⟨bcell hb6 ?_, bcell hb6 ?_⟩ <;> go_keep)) (first | (go_at_call 35; refine (HL.out _ (by repeat' first | exact Below.refl _ _ | apply below_drew)).mono ?_; rintro e w5 ⟨rfl, hb5⟩; have hb5' := below_step (by repeat' first | exact Below.refl wr.heap.size wr | apply below_drew) hb5) | (go_at_call 25; refine (HZ.out _ (by repeat' first | exact hb5' | apply below_drew)).mono ?_; rintro e w6 ⟨rfl, hb6⟩; have hb6' := below_step (by repeat' first | exact hb5' | apply below_drew) hb6))
          have HCW := Aside0.mk (HC.out.below hb6')
          have HTW := Aside0.mk (HTA.out.below hb6')
          have ha2 : ((1 + sumT shs (D ++ [t]) : Nat) : Int) = (a : Int) + (z : Int) := by rw [sum_app, sum_one, hz]; omega
          have hTD2 : T = (D ++ [t]) ++ R := by rw [HTD.out]; simp
          have haR : inR (a : Int) := ⟨by omega, by omega⟩
          have HK2 := Aside0.mk (keep_snoc shs S t D 1)
          rw [ha] at HK2
          have HA2 := Aside0.mk ha2
          have HTD2 := Aside0.mk hTD2
          clear HTA HL HZ c0 cw hb5 hb5' hb6 hb6' c2 HC ha2 hTD2
          cases hS : S (a : Int) with
          | false =>
            rw [hS, if_neg (by decide), List.append_nil] at HK2
            go_wp2_with (first | ((try (refine gate_guard (by rfl) ?_; dsimp only)); (with_reducible refine gate_dst (N := 84) rfl ?_); refine blook Try.underlying3 Try.underlying4 rfl (.tmp 82) (.tmp 83) 66 rfl Try.underlying66 (zb4 _) rfl HCW.out.sn rfl haR hS ?_))
            go_roundw
            case rel =>
              refine ⟨D ++ [t], R, mid ++ encT shs t, HTD2.out, ?_, ?_, ⟨?_⟩⟩
              · rw [HK2.out, List.length_append, encT_len, hz, sum_app, sum_one, hz]; have := HMID.out; omega
              · rw [HA2.out]
              · have := HCW.out
                rw [HK2.out]
                unfold wsM
                rw [HPRE.out] at this
                simp only [List.append_assoc] at this ⊢
                exact this
            case measure => (simp [intOf]; try omega)
          | true =>
            rw [hS, if_pos rfl] at HK2
            have HRF := Aside0.mk (fun wx (hb : Below w6.heap.size w6 wx) => refs_ta (HTW.out.below hb) (H := (hd shs t : Int)) (by unfold hd; split <;> rfl))
            go_wp2_with (first | ((try (refine gate_guard (by rfl) ?_; dsimp only)); (with_reducible refine gate_dst (N := 84) rfl ?_); refine blook Try.underlying3 Try.underlying4 rfl (.tmp 82) (.tmp 83) 66 rfl Try.underlying66 (zb4 _) rfl HCW.out.sn rfl haR hS ?_) | (go_at_call 37; refine (HRF.out _ (by repeat' first | exact Below.refl _ _ | apply below_drew)).mono ?_; rintro e wq ⟨A0, cc0, rfl, hcc, hCC, hbq⟩; have HCQ := Aside0.mk (HCW.out.below (below_step (by repeat' first | exact Below.refl w6.heap.size w6 | apply below_drew) hbq)); have HCC := Aside0.mk hCC; have HCL := Aside0.mk hcc; clear hbq hCC hcc))
            have HKC : Aside0 (∀ wy, (∀ k, P0 k → k ≠ g ∧ k ≠ gw ∧ k ≠ gs → wy.heap[k]? = w.heap[k]?) → Kd.bool.C wy A0 (shOf shs t.s).f0.length (shOf shs t.s).f0) := ⟨fun wy hy => HCC.out wy (fun k hk _ => (hy k hk.1 hk.2).trans (HCW.out.kp k hk.1 hk.2).symm)⟩
            have HCQ1 := Aside0.mk (HCQ.out.below (below_alloc (Below.refl _ _) (.cells #[.slice A0 (shOf shs t.s).f0.length cc0, .bool (shOf shs t.s).f1, .bool (shOf shs t.s).f2] 65)))
            have HB14 : Aside0 (Blk (wq.alloc (.cells #[.slice A0 (shOf shs t.s).f0.length cc0, .bool (shOf shs t.s).f1, .bool (shOf shs t.s).f2] 65)) wq.heap.size 65 #[.slice A0 (shOf shs t.s).f0.length cc0, .bool (shOf shs t.s).f1, .bool (shOf shs t.s).f2]) := ⟨Blk.made _ _ _⟩
            have HTZ : Aside0 (z = hd shs t + t.xs.length) := ⟨by rw [← hz]; unfold tsz hd; split <;> rfl⟩
            have hhd : 1 ≤ hd shs t ∧ hd shs t ≤ 2 := by unfold hd; split <;> simp
            have hlen : hd shs t + t.xs.length = z := HTZ.out.symm
            clear HCQ HCC HTW
            go_loopw [93] (fun v93 wy => ∃ i : Nat, i ≤ t.xs.length ∧ v93 = .int .i64 i ∧ Aside0 (CK w wy base P0 g gw gs m (pre ++ encT shs ⟨t.s, mvN shs (newF shs S T) t i⟩ ++ (R.flatMap (encT shs) ++ junk)) ([false] ++ T.flatMap (begT shs) ++ List.replicate (most - sumT shs T) false) (nx : Int) (mv + 1) shV shs bs bt ns nt S (newF shs S T) ∧ Blk wy wq.heap.size 65 #[.slice A0 (shOf shs t.s).f0.length cc0, .bool (shOf shs t.s).f1, .bool (shOf shs t.s).f2])) (fun v93 _ => t.xs.length - (intOf v93).toNat)
            case atStart => exact ⟨0, Nat.zero_le _, rfl, ⟨by rw [mvN_zero]; exact HCQ1.out, HB14.out⟩⟩
            case round =>
              clear HCQ1 HB14
              obtain ⟨i, hi, rfl, HI⟩ := hrel
              by_cases hli : i < t.xs.length
              · have hli' : (i : Int) < (t.xs.length : Int) := by omega
                have HSR := Aside0.mk (isref_at (f1 := (shOf shs t.s).f1) (f2 := (shOf shs t.s).f2) (HKC.out _ HI.out.1.kp) HCL.out i (fun hf => by rw [← HOK.out.2.1 hf]; exact hli))
                obtain ⟨z0, z1, z2⟩ : _ ∧ _ ∧ _ := ⟨HI.out.2.cell (o := 0) (v := .slice A0 (shOf shs t.s).f0.length cc0) rfl, HI.out.2.cell (o := 1) (v := .bool (shOf shs t.s).f1) rfl, HI.out.2.cell (o := 2) (v := .bool (shOf shs t.s).f2) rfl⟩
                have hir : (if (shOf shs t.s).f1 = true then (shOf shs t.s).f2 else (shOf shs t.s).f0.getD i false) = isR shs t i := rfl
                rw [hir] at HSR
                clear hir
                cases hb : isR shs t i with
                | false =>
                  rw [hb] at HSR
                  go_wp2_with (first | (go_at_call 38; (with_reducible refine (HSR.out).mono ?_); rintro e wz ⟨rfl, hbz⟩; have HBZ := Aside0.mk hbz; clear hbz))
                  go_roundw
                  case rel => exact ⟨i + 1, by omega, by go_num, ⟨by rw [mvN_skip shs _ t i hb]; exact HI.out.1.below HBZ.out, HI.out.2.below HBZ.out⟩⟩
                  case measure => (simp [intOf]; try omega)
                | true =>
                  rw [hb] at HSR
                  obtain ⟨X, hX⟩ : ∃ X, X = t.xs.getD i 0 := ⟨_, rfl⟩
                  have hXR : inR X := by rw [hX]; exact HWR.out _ (by rw [List.getD_eq_getElem?_getD, List.getElem?_eq_getElem hli]; exact List.getElem_mem _)
                  obtain ⟨Y, hY⟩ : ∃ Y, Y = ref1 (newF shs S T) X := ⟨_, rfl⟩
                  have HXE := Aside0.mk hX
                  have HYE := Aside0.mk hY
                  have HXR := Aside0.mk hXR
                  have HHD : Aside0 (∃ q : Nat, q = hd shs t) := ⟨⟨_, rfl⟩⟩
                  have q4 : (a : Int) + (hd shs t : Int) + (i : Int) < (m : Int) := by omega
                  have q5 : (0 : Int) ≤ (a : Int) + (hd shs t : Int) + (i : Int) := by omega
                  have q6 : (m : Int) ≤ 65537 := by omega
                  have q7 : a + hd shs t + i < m := by omega
                  have HGW : Aside0 ((pre ++ encT shs ⟨t.s, mvN shs (newF shs S T) t i⟩ ++ (R.flatMap (encT shs) ++ junk)).getD (a + hd shs t + i) 0 = X) := ⟨by
                    have := ws_get shs pre (R.flatMap (encT shs) ++ junk) t (mvN shs (newF shs S T) t i) i (mvN_len _ _ _ _) hli
                    rw [HPL.out] at this
                    rw [this, mvN_at _ _ _ _ _ hli, if_neg (by omega), hX]⟩
                  clear hX hY hXR
                  go_wp2_with (first | (go_at_call 38; (with_reducible refine (HSR.out).mono ?_); rintro e wz ⟨rfl, hbz⟩; have HIZ := Aside0.mk (HI.out.1.below hbz); have HBZ := Aside0.mk (HI.out.2.below hbz); clear hbz z0 z1 z2))
                  have c0 := HIZ.out.am.c0
                  have cw := HIZ.out.am.cw (i := a + hd shs t + i) q7
                  rw [HGW.out] at cw
                  have HLD := Aside0.mk (HIZ.out.drew.look HXR.out)
                  rw [← HYE.out] at HLD
                  have HST := Aside0.mk (HIZ.out.word q7 Y)
                  have hsf : wz.frozen? ⟨gw, a + hd shs t + i, none⟩ = false := frozen_of_row _ _ _ _ _ HIZ.out.am.wds
                  obtain ⟨ix, hix⟩ : ∃ ix : Nat, a + hd shs t + i = ix := ⟨_, rfl⟩
                  have hiI : (a : Int) + (hd shs t : Int) + (i : Int) = (ix : Int) := by omega
                  have q8 : (ix : Int) < (m : Int) := by omega
                  have q9 : IntKind.i64.wrap (ix : Int) = (ix : Int) := IntWalk.i64_in _ (by omega)
                  rw [hix] at cw hsf HST q7
                  clear q4 q5
                  have hlk := HLD.out
                  go_region
                  clear hlk c0 cw hsf
                  generalize wz.setCell ⟨gw, ix, none⟩ (.int .i64 Y) = wn at *
                  go_wp2_with fail
                  go_roundw
                  case rel =>
                    refine ⟨i + 1, by omega, by go_num, ⟨?_, (HBZ.out.kept HST.out.2 (fun e => by injection e with e; exact HBZ.out.ne_type HIZ.out.am.wds (by decide) e)).below (below_drew (Below.refl _ _))⟩⟩
                    have h1 := HST.out.1
                    have h2 := ws_put shs pre (R.flatMap (encT shs) ++ junk) t (mvN shs (newF shs S T) t i) i Y (mvN_len _ _ _ _) hli
                    rw [HPL.out, hix] at h2
                    rw [h2, HYE.out, HXE.out, mvN_step shs _ t i hli hb] at h1
                    exact h1.drew
                  case measure => (simp [intOf]; try omega)
              · have hli' : ¬ (i : Int) < (t.xs.length : Int) := by omega
                obtain rfl : i = t.xs.length := by omega
                obtain ⟨X, hX⟩ : ∃ X, X = [w0] ++ ((keepT shs S D 1).map (mvT shs (newF shs S T))).flatMap (encT shs) := ⟨_, rfl⟩
                obtain ⟨e, he⟩ : ∃ e, e = encT shs (mvT shs (newF shs S T) t) := ⟨_, rfl⟩
                have HCX : Aside0 (CK w wr base P0 g gw gs m (X ++ (mid ++ e) ++ (R.flatMap (encT shs) ++ junk)) ([false] ++ T.flatMap (begT shs) ++ List.replicate (most - sumT shs T) false) (nx : Int) (mv + 1) shV shs bs bt ns nt S (newF shs S T)) := ⟨by
                  have := HI.out.1
                  rw [HPRE.out] at this
                  rw [hX, he]
                  unfold mvT
                  simp only [List.append_assoc] at this ⊢
                  exact this⟩
                have hel : e.length = z := by rw [he, encT_len, mvT_tsz, hz]
                have hXl : X.length = 1 + sumT shs (keepT shs S D 1) := by rw [hX, List.length_append, flat_len, mvT_sum]; rfl
                have hFa : newF shs S T (a : Int) = some ((1 + sumT shs (keepT shs S D 1) : Nat) : Int) := by
                  have h1 := toF_at shs S t R D 1 1 (by rw [ha]; exact hS)
                  rw [ha] at h1
                  unfold newF
                  rw [HTD.out]
                  exact h1
                have hcd : 1 + sumT shs (keepT shs S D 1) ≤ a := by have := keep_sum shs S D 1; omega
                have HXE := Aside0.mk hX
                have HEE := Aside0.mk he
                have hXm : a = X.length + mid.length := by rw [hXl]; have := HMID.out; omega
                generalize 1 + sumT shs (keepT shs S D 1) = cd at *
                have c0 := HCX.out.am.c0
                have HLD := Aside0.mk (HCX.out.drew.look haR)
                have HLA : Aside0 (ref1 (newF shs S T) (a : Int) = (cd : Int)) := ⟨by unfold ref1; rw [hFa]; rfl⟩
                rw [HLA.out] at HLD
                obtain ⟨r0, r1, r2, r3, r4, r5⟩ : (cd : Int) < (m : Int) ∧ (cd : Int) ≤ (m : Int) ∧ (0 : Int) ≤ (cd : Int) ∧ (a : Int) ≤ (a : Int) + (z : Int) ∧ (a : Int) + (z : Int) ≤ (m : Int) ∧ (m : Int) ≤ 65537 := ⟨by omega, by omega, by omega, by omega, by omega, by omega⟩
                obtain ⟨az, haz⟩ : ∃ az : Nat, a + z = az := ⟨_, rfl⟩
                have hazI : (a : Int) + (z : Int) = (az : Int) := by omega
                obtain ⟨r6, r7⟩ : (a : Int) ≤ (az : Int) ∧ (az : Int) ≤ (m : Int) := ⟨by omega, by omega⟩
                have r8 : IntKind.i64.wrap (az : Int) = (az : Int) := IntWalk.i64_in _ (by omega)
                obtain ⟨n1, n2⟩ : ¬ m = cd ∧ ¬ m = a := ⟨by omega, by omega⟩
                have HMIN : Aside0 (e.length = Nat.min (az - a) (m - cd)) := ⟨by rw [hel, ← haz, show a + z - a = z by omega]; exact (Nat.min_eq_left (by omega)).symm⟩
                have HEL := Aside0.mk hel
                have HXL := Aside0.mk hXl
                have HXM := Aside0.mk hXm
                clear hX he hel hXl hXm hFa HI r3 r4
                go_wp2_with fail
                go_region_held3 (fun w' => w'.cell? ⟨g, 0, none⟩ = some (.slice (some ⟨gw, 0, none⟩) m m) ∧ (Instr.lookup 68 (.map (some bt)) (.int .i64 (a : Int)) false).run Try.prog w' = .ok (.int .i64 (cd : Int)) w') (first | (exact ⟨HCX.out.drew.am.c0, HLD.out⟩) | (exact ⟨hck.am.c0, by have := hck.look haR; rw [HLA.out] at this; exact this⟩) | go_keep) (first | (refine step_copy_w (off := cd) (so := a) (dLen := m - cd) (dCap := m - cd) (sLen := az - a) (sCap := m - a) HCX.out.drew oi2 rfl (.tmp 126) (.tmp 135) rfl (by first | rfl | exact congrArg (fun x => Value.slice x (m - cd) (m - cd)) (if_neg n1)) (by first | rfl | exact congrArg (fun x => Value.slice x (az - a) (m - a)) (if_neg n2)) HXL.out.symm HXM.out HMIN.out ?_; intro w9 hck hg9))
                have HC9 := Aside0.mk hck
                clear hck hg9 c0
                go_wp2_with fail
                go_roundw
                case rel =>
                  refine ⟨D ++ [t], R, (mid ++ e).drop e.length, HTD2.out, ?_, ?_, ⟨?_⟩⟩
                  · rw [mid_len, HK2.out, sum_app, sum_app, sum_one, hz]; have := HMID.out; omega
                  · rw [HA2.out, ← hazI]
                  · have := HC9.out
                    rw [HK2.out]
                    unfold wsM
                    rw [HXE.out, HEE.out] at this
                    rw [HEE.out, List.map_append, List.flatMap_append]
                    simp only [List.append_assoc, List.map_cons, List.map_nil, List.flatMap_cons, List.flatMap_nil, List.append_nil] at this ⊢
                    exact this
                case measure => (simp [intOf]; try omega)
    | cons t R =>
      have hsum : sumT shs T = sumT shs D + tsz shs t + sumT shs R := by rw [hTD, sum_app, sum_cons]; omega
      have hpos := tsz_pos shs t
      have hlt : ((1 + sumT shs D : Nat) : Int) < (nx : Int) := by omega
      have htm : t ∈ T := by rw [hTD]; simp
      have hok := HS.out.things t htm
      have hshl := HS.out.shl t.s
      have hst : ([false] ++ T.flatMap (begT shs) ++ List.replicate (most - sumT shs T) false).getD (1 + sumT shs D) false = true := by rw [hTD]; exact sts_at shs D R t _
      have hwe : [w0] ++ T.flatMap (encT shs) ++ junk = ([w0] ++ D.flatMap (encT shs)) ++ encT shs t ++ (R.flatMap (encT shs) ++ junk) := by rw [hTD, List.flatMap_append, List.flatMap_cons]; simp [List.append_assoc]
      have hpl : ([w0] ++ D.flatMap (encT shs)).length = 1 + sumT shs D := by rw [List.length_append, flat_len]; rfl
      have HTA := Aside0.mk (show TA wr base P0 g gw gs m ([w0] ++ T.flatMap (encT shs) ++ junk) ([false] ++ T.flatMap (begT shs) ++ List.replicate (most - sumT shs T) false) (nx : Int) (mv + 1) shV shs (1 + sumT shs D) t.s t.xs.length by
        have hck := HC.out
        rw [hwe] at hck ⊢
        exact hck.ta hpl (by omega) hlt (by omega) hsz.2 hst hok (by omega))
      have hD := keep_sum shs S D 1
      have HTD := Aside0.mk hTD
      have HSUM := Aside0.mk hsum
      generalize ha : 1 + sumT shs D = a at *
      generalize hcn : 1 + sumT shs (keepT shs S D 1) = cn at *
      generalize hz : tsz shs t = z at *
      have HL : Aside0 (∀ wx, Below wr.heap.size wr wx → Calls Try.prog 35 #[.pointer (some ⟨g, 0, none⟩), .int .i64 (a : Int)] wx fun e w' => e = .returned (.int .i64 (t.xs.length : Int)) ∧ Below wx.heap.size wx w') := ⟨fun wx hb => len_ta (HTA.out.below hb)⟩
      have HZ : Aside0 (∀ wx, Below wr.heap.size wr wx → Calls Try.prog 25 #[.pointer (some ⟨g, 0, none⟩), .int .i64 (t.s : Int), .int .i64 (t.xs.length : Int)] wx fun e w' => e = .returned (.int .i64 (z : Int)) ∧ Below wx.heap.size wx w') := ⟨fun wx hb => size_ta (HTA.out.below hb) hshl hok.2.2 (by rw [← hz]; rfl)⟩
      have c0 := HTA.out.am.c0
      have cw := HTA.out.am.cw (i := a) (by omega)
      rw [HTA.out.hw] at cw
      obtain ⟨hz0, q1, q2, q3, q4, q5⟩ : 0 < z ∧ (0 : Int) ≤ (a : Int) ∧ (a : Int) < (m : Int) ∧ (a : Int) + (z : Int) ≤ 100000 ∧ (cn : Int) + (z : Int) ≤ 100000 ∧ (0 : Int) ≤ (cn : Int) := ⟨hpos, by omega, by omega, by omega, by omega, by omega⟩
      clear hTD hsum hpos htm hok hshl hst hwe hpl hD
      go_wp2_with fail
      go_region_held3 (fun w' => w'.cell? ⟨g, 0, none⟩ = some (.slice (some ⟨gw, 0, none⟩) m m) ∧ w'.cell? ⟨gw, a, none⟩ = some (.int .i64 t.s)) (first | go_keep | (refine ⟨bcell hb5 ?_, bcell hb5 ?_⟩ <;> go_keep) | (refine ⟨bcell hb6 ?_, bcell hb6 ?_⟩ <;> go_keep)) (first | (go_at_call 35; refine (HL.out _ (by repeat' first | exact Below.refl _ _ | apply below_drew)).mono ?_; rintro e w5 ⟨rfl, hb5⟩; have hb5' := below_step (by repeat' first | exact Below.refl wr.heap.size wr | apply below_drew) hb5) | (go_at_call 25; refine (HZ.out _ (by repeat' first | exact hb5' | apply below_drew)).mono ?_; rintro e w6 ⟨rfl, hb6⟩; have hb6' := below_step (by repeat' first | exact hb5' | apply below_drew) hb6))
      have HCW := Aside0.mk (HC.out.below hb6')
      have ha2 : ((1 + sumT shs (D ++ [t]) : Nat) : Int) = (a : Int) + (z : Int) := by rw [sum_app, sum_one, hz]; omega
      have hTD2 : T = (D ++ [t]) ++ R := by rw [HTD.out]; simp
      have hD1 : nt + 1 ≤ (D ++ [t]).length := by rw [List.length_append]; show nt + 1 ≤ D.length + 1; omega
      have hnt2 : nt < 9223372036854775807 := by have : D.length ≤ T.length := by rw [hTD2]; simp
                                                 omega
      have haR : inR (a : Int) := ⟨by omega, by omega⟩
      have hcR : inR (cn : Int) := ⟨by omega, by omega⟩
      have HK2 := Aside0.mk (keep_snoc shs S t D 1)
      have HF2 := Aside0.mk (fun x => toF_snoc shs S t D 1 1 x)
      rw [ha, hcn] at HF2
      rw [ha] at HK2
      have HA2 := Aside0.mk ha2
      have HTD2 := Aside0.mk hTD2
      clear HTA HL HZ c0 cw hb5 hb5' hb6 hb6' c2 HC ha2 hTD2 hnt
      cases hS : S (a : Int) with
      | false =>
        rw [hS, if_neg (by decide), List.append_nil] at HK2
        have HF3 : Aside0 (toF shs S (D ++ [t]) 1 1 = toF shs S D 1 1) := ⟨funext fun x => by rw [HF2.out x, hS, if_neg (by decide)]⟩
        clear HF2
        go_wp2_with (first | ((try (refine gate_guard (by rfl) ?_; dsimp only)); (with_reducible refine gate_dst (N := 54) rfl ?_); refine blook Try.underlying3 Try.underlying4 rfl (.tmp 52) (.tmp 53) 66 rfl Try.underlying66 (zb4 _) rfl HCW.out.sn rfl haR hS ?_))
        go_roundw
        case rel =>
          refine ⟨D ++ [t], R, nt, HTD2.out, by omega, ?_, ?_, ⟨by rw [HF3.out]; exact HCW.out⟩⟩
          · rw [HA2.out]
          · rw [HK2.out, ← hcn]
        case measure => (simp [intOf]; try omega)
      | true =>
        rw [hS, if_pos rfl] at HK2
        have hc2 : ((1 + sumT shs (keepT shs S (D ++ [t]) 1) : Nat) : Int) = (cn : Int) + (z : Int) := by rw [HK2.out, sum_app, sum_one, hz]; omega
        have HC2 := Aside0.mk hc2
        have HF3 : Aside0 (toF shs S (D ++ [t]) 1 1 = upd (toF shs S D 1 1) (a : Int) (cn : Int)) := ⟨funext fun x => by rw [HF2.out x, hS, if_pos rfl]⟩
        clear HF2 hc2
        go_wp2_with (first | ((try (refine gate_guard (by rfl) ?_; dsimp only)); (with_reducible refine gate_dst (N := 54) rfl ?_); refine blook Try.underlying3 Try.underlying4 rfl (.tmp 52) (.tmp 53) 66 rfl Try.underlying66 (zb4 _) rfl HCW.out.sn rfl haR hS ?_) | (at_mapUpdate; refine MapInt.store Try.underlying3 rfl (.tmp 55) (.tmp 56) (.tmp 57) 68 rfl Try.underlying68 rfl HCW.out.tm hnt2 rfl rfl haR hcR ?_; intro w7 hm7 hg7 hz7; clear hz7; have HCM := Aside0.mk (HCW.out.mapped hm7 hg7); clear hm7 hg7))
        go_roundw
        case rel =>
          refine ⟨D ++ [t], R, nt + 1, HTD2.out, by omega, ?_, ?_, ⟨by rw [HF3.out]; exact HCM.out⟩⟩
          · rw [HA2.out]
          · rw [HC2.out]
        case measure => (simp [intOf]; try omega)
end Go.Proofs.Ytibhjlmffgabgaa.PAll
