import Derived.Test.YtibhjlmffgabgaaZClear
import Derived.Test.YtibhjlmffgabgaaZRangeBool
namespace Go.Proofs.Ytibhjlmffgabgaa.PAll
open Go.RowKit Go.Proofs.YtibhjlmffgabgaaW.PrintWords Go.Proofs.YtibhjlmffgabgaaW.PrintLast Go.Proofs.YtibhjlmffgabgaaW.PrintMore
open Go.Proofs.Ytibhjlmffgabgaa.MapInt
set_option linter.unusedVariables false
set_option linter.unusedSimpArgs false
theorem keep_congr (shs : List S65) {S S2 : Int → Bool} : ∀ (T : List Thg) (b : Nat), (∀ y : Int, (b : Int) ≤ y → S y = S2 y) → keepT shs S T b = keepT shs S2 T b
  | [], b, h => rfl
  | t :: T, b, h => by
    unfold keepT
    rw [h b (Int.le_refl _), keep_congr shs T _ (fun y hy => h y (by omega))]
theorem keep_del (shs : List S65) {L : Int → Bool} {x : Int} {t : Thg} : ∀ (T : List Thg) (b : Nat), findT shs T b x = some t → L x = true → sumT shs (keepT shs L T b) = tsz shs t + sumT shs (keepT shs (fun z => L z && !decide (z = x)) T b)
  | [], b, h, _ => by cases h
  | u :: T, b, h, hl => by
    have hp := tsz_pos shs u
    unfold findT at h
    split at h
    · rename_i h1
      injection h with h; subst h
      subst h1
      unfold keepT
      rw [if_pos hl, if_neg (by simp), sum_cons, keep_congr shs (S := L) (S2 := fun z => L z && !decide (z = (b : Int))) T _ (fun y hy => by
        have : ¬ y = (b : Int) := by omega
        simp [this])]
    · rename_i h1
      have ih := keep_del shs (L := L) (x := x) T _ h hl
      unfold keepT
      have e : (L (b : Int) && !decide ((b : Int) = x)) = L (b : Int) := by simp [h1]
      rw [e]
      split
      · rw [sum_cons, sum_cons, ih]; omega
      · exact ih
theorem keep_nil (shs : List S65) {L : Int → Bool} : ∀ (T : List Thg) (b : Nat), (∀ y : Int, (b : Int) ≤ y → y < b + sumT shs T → L y = false) → keepT shs L T b = []
  | [], b, h => rfl
  | u :: T, b, h => by
    have hp := tsz_pos shs u
    have hs := sum_cons shs u T
    unfold keepT
    rw [if_neg (by rw [h b (Int.le_refl _) (by omega)]; decide)]
    exact keep_nil shs T _ (fun y h1 h2 => h y (by omega) (by omega))
structure RCH (W w : World) (bm r n : Nat) (S left : Int → Bool) (cnt : Nat) : Prop where
  bel : Below W.heap.size W w
  rg : RGB Try.prog w bm r n S left cnt
  hb : W.heap.size ≤ bm
  hr : W.heap.size ≤ r
theorem RCH.below {W w w2 : World} {bm r n cnt : Nat} {S left : Int → Bool} (h : RCH W w bm r n S left cnt) (hb : Below w.heap.size w w2) : RCH W w2 bm r n S left cnt := ⟨below_step h.bel hb, h.rg.below hb, h.hb, h.hr⟩
theorem RCH.next {W w w2 : World} {bm r n cnt cnt2 : Nat} {S left left2 : Int → Bool} (h : RCH W w bm r n S left cnt) (hg : w.grownBy w2 (some r)) (hrg : RGB Try.prog w2 bm r n S left2 cnt2) : RCH W w2 bm r n S left2 cnt2 :=
  ⟨⟨hg.os.trans h.bel.os, hg.tape.trans h.bel.tape, hg.output.trans h.bel.output, Nat.le_trans h.bel.size hg.size, fun k hk => (hg.block k (Nat.lt_of_lt_of_le hk h.bel.size) (fun e => by have := h.hr; injection e with e; omega)).trans (h.bel.block k hk)⟩, hrg, h.hb, h.hr⟩
theorem sizeF_thg {shs : List S65} {t : Thg} (h : okT shs t) : sizeF shs t.s t.xs.length = (tsz shs t : Int) := by
  obtain ⟨h1, h2, h3⟩ := h
  unfold sizeF tsz
  rw [if_neg (by omega), Int.toNat_natCast]
  split
  · push_cast; rfl
  · rename_i hf
    rw [h2 (by simpa using hf)]; push_cast; rfl
set_option maxHeartbeats 8000000 in
set_option maxRecDepth 100000 in
theorem reached_calls {w : World} {base g most : Nat} {P : Nat → Prop} {shs : List S65} {T : List Thg} {mv : Int} (h : AS w base P g most shs T mv) {A : Option Addr} {c : Nat} {roots : List Int} (hr : Kd.C (Kd.int .i64) w A roots.length roots) (hc : roots.length ≤ c) (hin : ∀ r ∈ roots, inR r) :
    Calls Try.prog 17 #[.pointer (some ⟨g, 0, none⟩), .slice A roots.length c] w fun e w' => ∃ S, e = .returned (.int .i64 (sumT shs (keepT shs S T 1) : Nat)) ∧ (∀ x, S x = true ↔ Rch shs T roots x) ∧ Below w.heap.size w w' := by
  have HS := Aside0.mk h
  have HM := Aside0.mk (mark_calls h hr hc hin)
  have hT : 1 + sumT shs T ≤ 65537 := by have := h.room; have := h.bnd; omega
  clear h hr hin
  go_enter Try.func17, Try.ntmps17
  go_wp2_with (first | (go_at_call 36; (with_reducible refine (HM.out).mono ?_); rintro e w2 ⟨bm, S, ns, rfl, hbm, hns, hS, hb2, hbs⟩; have HB2 := Aside0.mk hbm; have HSR := Aside0.mk hS; have HBE := Aside0.mk hb2; have HGE := Aside0.mk hbs; clear hbm hS hb2 hns hbs) | (at_range; refine MapInt.rngB Try.underlying3 rfl (.tmp 11) 66 rfl Try.underlying66 rfl HB2.out ?_; intro w3 hrg hg3 hs3; have HRG := Aside0.mk hrg; have HG3 := Aside0.mk hg3; clear hrg hg3 hs3))
  (try go_frame)
  obtain ⟨cnt0, hrg⟩ := HRG.out
  have HR0 : Aside0 (RCH w w3 bm w2.heap.size ns S S cnt0) := ⟨⟨below_step HBE.out (grown_none HG3.out), hrg, HGE.out, HBE.out.size⟩⟩
  clear HRG HG3 hrg HB2 HBE HM
  have hk0 := keep_sum shs S T 1
  generalize w2.heap.size = r at *
  go_loopg [5] cnt0 (fun k v5 wr => ∃ left : Int → Bool, v5 = .int .i64 (((sumT shs (keepT shs S T 1) - sumT shs (keepT shs left T 1) : Nat)) : Int) ∧ sumT shs (keepT shs left T 1) ≤ sumT shs (keepT shs S T 1) ∧ Aside0 (RCH w wr bm r ns S left k))
  case atStart => exact ⟨S, by rw [Nat.sub_self]; rfl, Nat.le_refl _, HR0⟩
  case round =>
    clear HR0
    obtain ⟨left, rfl, hle, HR⟩ := hrel
    go_wp2_with (first | (at_next; refine MapInt.nxtB Try.underlying3 Try.underlying4 rfl (.tmp 12) rfl rfl HR.out.rg ?_ ?_))
    · intro h0
      have HE : Aside0 (keepT shs left T 1 = []) := ⟨keep_nil shs T 1 (fun y h1 h2 => h0 y ⟨by omega, by omega⟩)⟩
      clear h0
      go_wp2_with fail
      (try go_ret)
      exact ⟨S, by rw [HE.out]; rfl, HSR.out, HR.out.bel⟩
    · intro x w4 cn' hx hlx hSx hrg hlt4 hg4 hs4 hen
      have hf := ((HSR.out x).1 hSx).found
      obtain ⟨t, ht⟩ := Option.isSome_iff_exists.1 hf
      have HR4 := Aside0.mk (HR.out.next hg4 hrg)
      have hkd := keep_del shs T 1 ht hlx
      have htm := (find_ge T _ _ t ht).2.2
      have hz := sizeF_thg (HS.out.things t htm)
      have H21 : Aside0 (∀ wx, Below w.heap.size w wx → Calls Try.prog 21 #[.pointer (some ⟨g, 0, none⟩), .int .i64 x] wx fun e w' => e = .returned (.int .i64 (t.s : Int)) ∧ Below wx.heap.size wx w') := ⟨fun wx hb => by have := shape_calls (HS.out.below hb) x; rw [ht] at this; exact this⟩
      have H35 : Aside0 (∀ wx, Below w.heap.size w wx → Calls Try.prog 35 #[.pointer (some ⟨g, 0, none⟩), .int .i64 x] wx fun e w' => e = .returned (.int .i64 (t.xs.length : Int)) ∧ Below wx.heap.size wx w') := ⟨fun wx hb => by have := len_calls (HS.out.below hb) x; rw [ht] at this; exact this⟩
      have H25 : Aside0 (∀ wx, Below w.heap.size w wx → Calls Try.prog 25 #[.pointer (some ⟨g, 0, none⟩), .int .i64 (t.s : Int), .int .i64 (t.xs.length : Int)] wx fun e w' => e = .returned (.int .i64 (tsz shs t : Int)) ∧ Below wx.heap.size wx w') := ⟨fun wx hb => by have := size_calls (HS.out.below hb) t.s t.xs.length; rw [hz] at this; exact this⟩
      obtain ⟨d, hd⟩ : ∃ d : Nat, sumT shs (keepT shs S T 1) - sumT shs (keepT shs left T 1) = d := ⟨_, rfl⟩
      have hd2 : Aside0 (sumT shs (keepT shs S T 1) - sumT shs (keepT shs (fun z => left z && !decide (z = x)) T 1) = d + tsz shs t ∧ sumT shs (keepT shs (fun z => left z && !decide (z = x)) T 1) ≤ sumT shs (keepT shs S T 1)) := ⟨by omega, by omega⟩
      rw [hd]
      have q1 : (d : Int) + (tsz shs t : Int) ≤ 70000 := by have := hd2.out; omega
      clear hg4 hs4 hlx hSx hf ht hkd htm hz hd hrg HR
      have q2 : (0 : Int) ≤ (d : Int) := by omega
      generalize hzz : tsz shs t = z at *
      have q3 : (0 : Int) ≤ (z : Int) := by omega
      go_wp2_with (first | (go_at_call 21; (with_reducible refine (H21.out _ HR4.out.bel).mono ?_); rintro e w5 ⟨rfl, hb5⟩; have HR5 := Aside0.mk (HR4.out.below hb5); clear hb5 hen) | (go_at_call 35; (with_reducible refine (H35.out _ HR5.out.bel).mono ?_); rintro e w6 ⟨rfl, hb6⟩; have HR6 := Aside0.mk (HR5.out.below hb6); clear hb6) | (go_at_call 25; (with_reducible refine (H25.out _ HR6.out.bel).mono ?_); rintro e w7 ⟨rfl, hb7⟩; have HR7 := Aside0.mk (HR6.out.below hb7); clear hb7))
      go_roundg cn'
      case measure => omega
      case rel => exact ⟨_, by rw [hd2.out.1]; go_num, hd2.out.2, HR7⟩
end Go.Proofs.Ytibhjlmffgabgaa.PAll
