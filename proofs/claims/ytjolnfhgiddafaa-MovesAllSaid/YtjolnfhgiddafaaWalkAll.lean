/-
  The walk of the law MovesAll.
-/
import Derived.Test.YtjolnfhgiddafaaAllPure
import Derived.Test.YtjolnfhgiddafaaPlacesG
import Derived.Deep.RegionWith
import Derived.BigRegion
import Derived.IntWalk
namespace Go.Proofs.Ytjolnfhgiddafaa.PAll
open Go.RowKit Go.Proofs.YtjolnfhgiddafaaW.PrintWords Go.Proofs.YtjolnfhgiddafaaW.PrintLast Go.Proofs.YtjolnfhgiddafaaW.PrintMore
open Go.Proofs.Ytjolnfhgiddafaa.MapInt Go.Proofs.Ytjolnfhgiddafaa.Moves
set_option linter.unusedVariables false
set_option linter.unusedSimpArgs false
/-- The numbers in their order, two lists of moves. -/
structure AS (W w : World) (vA vT vB : Value) (z : List Int) (lT lB : List S35) : Prop where
  bel : Below W.heap.size W w
  rA : w.ownsRow W.heap.size 3 1 vA z.length (nums .i64 z)
  rT : w.ownsRow W.heap.size 35 2 vT lT.length (cellsE (lT.map toE))
  rB : w.ownsRow W.heap.size 35 2 vB lB.length (cellsE (lB.map toE))
  ne : ∀ k, vT.ownBlock = some k → some k ≠ vB.ownBlock
section
variable {W w w2 : World} {vA vT vB v2 : Value} {z : List Int} {lT lB : List S35}
theorem AS.madeT (h : AS W w vA vT vB z lT lB) {cs : Array Value} {m : Nat} {x : S35} (ho : w2.ownsRow W.heap.size 35 2 v2 (lT.length + m) (cellsE (lT.map toE) ++ cs.toList)) (hm : m = 1) (hx : cs.toList = [.int .i64 x.f0, .int .i64 x.f1]) (hg : (w.alloc (.cells cs 35)).grownBy w2 vT.ownBlock) (hw : v2.ownBlock = vT.ownBlock ∨ v2.ownBlock = some (w.heap.size + 1)) : AS W w2 vA v2 vB z (lT ++ [x]) lB := by
  subst hm
  have hg' := grown_alloc hg
  refine ⟨h.bel.grown hg' h.bel.size (fun k hk => (MapInt.own_row_lt h.rT k hk).2), MapInt.own_kept h.rA hg' (own_apart h.rA h.rT (by decide)), ?_, MapInt.own_kept h.rB hg' (fun k hk e => h.ne k e.symm hk.symm), fun k hk => ?_⟩
  · rw [List.length_append, List.map_append, cellsE_app]
    rw [hx] at ho
    exact ho
  · rcases hw with e | e
    · exact h.ne k (e ▸ hk)
    · rw [e] at hk
      injection hk with hk; subst hk
      intro e2
      have := (MapInt.own_row_lt h.rB _ e2.symm).1
      omega
theorem AS.madeB (h : AS W w vA vT vB z lT lB) {cs : Array Value} {m : Nat} {x : S35} (ho : w2.ownsRow W.heap.size 35 2 v2 (lB.length + m) (cellsE (lB.map toE) ++ cs.toList)) (hm : m = 1) (hx : cs.toList = [.int .i64 x.f0, .int .i64 x.f1]) (hg : (w.alloc (.cells cs 35)).grownBy w2 vB.ownBlock) (hw : v2.ownBlock = vB.ownBlock ∨ v2.ownBlock = some (w.heap.size + 1)) : AS W w2 vA vT v2 z lT (lB ++ [x]) := by
  subst hm
  have hg' := grown_alloc hg
  refine ⟨h.bel.grown hg' h.bel.size (fun k hk => (MapInt.own_row_lt h.rB k hk).2), MapInt.own_kept h.rA hg' (own_apart h.rA h.rB (by decide)), MapInt.own_kept h.rT hg' h.ne, ?_, fun k hk => ?_⟩
  · rw [List.length_append, List.map_append, cellsE_app]
    rw [hx] at ho
    exact ho
  · rcases hw with e | e
    · rw [e]; exact h.ne k hk
    · rw [e]
      intro e2
      injection e2 with e2; subst e2
      have := (MapInt.own_row_lt h.rT _ hk).1
      omega
end
theorem R35_kept {w w2 : World} {base b : Nat} {v : Value} {xs : List S35} {cs : Array Value} (h : Kd.R k35 35 w base (fun _ => True) v xs) (hB : Blk w b 33 cs) (hg : w.grownBy w2 (some b)) : Kd.R k35 35 w2 base (fun _ => True) v xs :=
  Kd.R_mono (Kd.R_grown (Kd.R_bound h) hg (fun k hk e => by
    obtain ⟨_, _, _, q, hq, cells, hc⟩ := hk
    injection e with e; subst e
    have hq2 : q ∈ [35] := hq
    have hq3 : q = 35 := by simpa using hq2
    subst hq3
    unfold Blk at hB
    rw [hB] at hc
    cases hc)) (fun _ _ => trivial)
theorem PG.below {W0 w w2 : World} {b : Nat} {vA vH : Value} {ats hs : List Int} (h : PG W0 w b vA vH ats hs) (hb : Below w.heap.size w w2) : PG W0 w2 b vA vH ats hs :=
  ⟨gb_step (row := none) h.gr ⟨hb.os, hb.tape, hb.output, hb.size, fun k hk _ => hb.block k hk⟩ (fun k hk => by cases hk), h.hB.below hb, MapInt.own_below h.rA hb, MapInt.own_below h.rH hb, h.ne, h.len⟩
theorem PG.step {W0 w : World} {b : Nat} {vA vH : Value} {ats hs : List Int} (h : PG W0 w b vA vH ats hs) (o : Obj) : PG W0 (w.alloc o).drew b vA vH ats hs := h.below (((Below.refl _ _).alloc (Nat.le_refl _) o).drew)
set_option maxHeartbeats 16000000 in
set_option maxRecDepth 100000 in
theorem all_x (A0 : Option Addr) (c0 : Nat) (xs : List Int) (W : World) (hr0 : Kd.C (Kd.int .i64) W A0 xs.length xs) (hl : xs.length ≤ 100) (hi : ∀ x ∈ xs, inR x) :
    Calls Try.prog 6 #[.slice A0 xs.length c0] W fun e w' => e = .returned (.bool true) ∧ Below W.heap.size W w' := by
  have HB := Aside0.mk (Below.refl W.heap.size W)
  have HR := Aside0.mk hr0
  have HI := Aside0.mk hi
  have HHE := Aside0.mk holds_eval
  obtain ⟨n, hn⟩ : ∃ n, n = xs.length := ⟨_, rfl⟩
  have hnl : n ≤ 100 := by omega
  have hnl' : (n : Int) ≤ 100 := by omega
  have HN := Aside0.mk hn
  rw [← hn]
  clear hr0 hi hn hl
  have hmks := print_make (P := Try.prog) 24 3 .i64 8 Try.underlying24 info3 (by decide) n (by omega)
  go_enter Try.func6, Try.ntmps6
  go_wp2_with (first | (go_at_call 8; (with_reducible refine (regletlaw18_holds.calls true _ HHE.out).mono ?_); rintro e w1 ⟨rfl, hb1⟩; have n_ := Aside0.mk (below_step HB.out hb1); clear HB hb1; have HB := n_; clear n_))
  have HO : Aside0 ((w1.alloc (.cells (madeCells #[.int .i64 0] n) 3)).ownsRow w1.heap.size 3 1 (.slice (some ⟨w1.heap.size, 0, none⟩) n n) n (nums .i64 (List.replicate n 0))) := ⟨own_made w1 w1.heap.size 3 .i64 n (Nat.le_refl _) (by omega)⟩
  have HBW : Aside0 (Below w1.heap.size w1 (w1.alloc (.cells (madeCells #[.int .i64 0] n) 3))) := ⟨(Below.refl w1.heap.size w1).alloc (Nat.le_refl _) _⟩
  obtain ⟨g, hg⟩ : ∃ g, g = w1.heap.size := ⟨_, rfl⟩
  have HG : Aside0 (g = w1.heap.size) := ⟨hg⟩
  have HO2 : Aside0 ((w1.alloc (.cells (madeCells #[.int .i64 0] n) 3)).ownsRow w1.heap.size 3 1 (.slice (some ⟨g, 0, none⟩) n n) n (nums .i64 (List.replicate n 0))) := ⟨by rw [hg]; exact HO.out⟩
  rw [← hg]
  clear hg hmks HO
  go_loopw [32] (fun v32 wr => ∃ (i : Nat) (z : List Int), i ≤ n ∧ v32 = .int .i64 i ∧ z.length = n ∧ Aside0 (∀ k, k < i → z.getD k 0 = (k : Int)) ∧ Aside0 (wr.ownsRow w1.heap.size 3 1 (.slice (some ⟨g, 0, none⟩) n n) n (nums .i64 z)) ∧ Aside0 (Below w1.heap.size w1 wr)) (fun v32 _ => n - (intOf v32).toNat)
  case atStart => exact ⟨0, _, Nat.zero_le _, rfl, by simp, ⟨fun k hk => by omega⟩, HO2, HBW⟩
  case round =>
    clear HO2 HBW
    obtain ⟨i, z, hi, rfl, hzl, HZ, HO, HBW⟩ := hrel
    by_cases hlt : i < n
    · have hlt' : (i : Int) < (n : Int) := by omega
      obtain ⟨hcS, hfS⟩ := own_at HO.out (i : Int) (by omega) hlt'
      rw [Int.toNat_natCast] at hcS hfS
      generalize rd z (i : Int) = zi at hcS
      obtain ⟨s1, s2⟩ := own_store (k := .i64) HO.out (i : Int) (i : Int)
      rw [Int.toNat_natCast] at s1 s2
      have HS1 := Aside0.mk s1
      have HS2 := Aside0.mk (HBW.out.grown s2 HBW.out.size (fun k hk => by cases hk; rw [HG.out]; exact Nat.le_refl _))
      clear s1 s2
      have hcS' : wr.cell? ((⟨g, 0, none⟩ : Addr).add i) = some (.int .i64 zi) := by rw [add_plain]; exact hcS
      have hfS' : wr.frozen? ((⟨g, 0, none⟩ : Addr).add i) = false := by rw [add_plain]; exact hfS
      go_wp2_with fail
      go_roundw
      case rel => exact ⟨i + 1, z.set i (i : Int), by omega, by go_num, by simp [hzl], ⟨fun k hk => by
        by_cases e : k = i
        · subst e; simp [List.getD_eq_getElem?_getD, hzl, hlt]
        · rw [List.getD_eq_getElem?_getD, List.getElem?_set_ne (fun h => e h.symm), ← List.getD_eq_getElem?_getD]; exact HZ.out k (by omega)⟩, HS1, HS2⟩
      case measure => simp [intOf]; omega
    · have hlt' : ¬ (i : Int) < (n : Int) := by omega
      obtain rfl : n = i := by omega
      have HP : Aside0 (z.Perm (idL n)) := ⟨by rw [idL_of z n hzl HZ.out]⟩
      clear HZ hzl
      go_wp2_with fail
      go_loopw [42] (fun v42 wr => ∃ (i : Nat) (z : List Int), i ≤ n ∧ v42 = .int .i64 i ∧ Aside0 (z.Perm (idL n)) ∧ Aside0 (wr.ownsRow w1.heap.size 3 1 (.slice (some ⟨g, 0, none⟩) n n) n (nums .i64 z)) ∧ Aside0 (Below w1.heap.size w1 wr)) (fun v42 _ => n - (intOf v42).toNat)
      case atStart => exact ⟨0, _, Nat.zero_le _, rfl, HP, HO, HBW⟩
      case round =>
        clear HP HO HBW
        obtain ⟨i, z, hi, rfl, HP, HO, HBW⟩ := hrel
        by_cases hlt : i < n
        · have hlt' : (i : Int) < (n : Int) := by omega
          have hzl : z.length = n := by rw [HP.out.length_eq, idL_len]
          obtain ⟨adx, rfl, hcx⟩ := Kd.at_int (Kd.C_below HR.out (below_step HB.out HBW.out)) (i : Int) (by omega) (by have := HN.out; omega)
          rw [Int.toNat_natCast] at hcx
          generalize rd xs (i : Int) = x at *
          obtain ⟨q, hq⟩ : ∃ q, q = x.tmod (n : Int) := ⟨_, rfl⟩
          have hq1 : -(n : Int) < q ∧ q < (n : Int) := by
            subst hq
            have h1 := Int.tmod_lt_of_pos x (show (0 : Int) < (n : Int) by omega)
            have h2 := Int.lt_tmod_of_pos x (show (0 : Int) < (n : Int) by omega)
            omega
          obtain ⟨r, hr⟩ : ∃ r, r = (q + (n : Int)).tmod (n : Int) := ⟨_, rfl⟩
          have hr1 : 0 ≤ r ∧ r < (n : Int) := by
            subst hr
            exact ⟨Int.tmod_nonneg _ (by omega), Int.tmod_lt_of_pos _ (by omega)⟩
          obtain ⟨k, hk⟩ : ∃ k : Nat, (k : Int) = r := ⟨r.toNat, by omega⟩
          have e1 : x.tmod (n : Int) = q := hq.symm
          have e2 : IntKind.i64.wrap (q + (n : Int)) = q + (n : Int) := IntWalk.i64_in _ (by omega)
          have e3 : (q + (n : Int)).tmod (n : Int) = (k : Int) := by rw [hk]; exact hr.symm
          have hkn : k < n := by omega
          have hkn' : (k : Int) < (n : Int) := by omega
          have hn0 : ¬ n = 0 := by omega
          clear hq hr hk hq1 hr1
          obtain ⟨hci, hfi⟩ := own_at HO.out (i : Int) (by omega) hlt'
          obtain ⟨hck, hfk⟩ := own_at HO.out (k : Int) (by omega) hkn'
          rw [Int.toNat_natCast] at hci hfi hck hfk
          obtain ⟨s1, s2⟩ := own_store (k := .i64) HO.out (i : Int) (rd z (k : Int))
          rw [Int.toNat_natCast] at s1 s2
          obtain ⟨s3, s4⟩ := own_store (k := .i64) s1 (k : Int) (rd z (i : Int))
          rw [Int.toNat_natCast] at s3 s4
          have HSW : Aside0 ((z.set i (rd z (k : Int))).set k (rd z (i : Int)) = swapL z i k) := ⟨by unfold swapL rd; simp⟩
          rw [HSW.out] at s3
          have HPW := Aside0.mk ((swapL_perm (z := z) (i := i) (k := k) (by omega) (by omega)).trans HP.out)
          have HS1 := Aside0.mk s3
          have HS2 := Aside0.mk ((HBW.out.grown s2 HBW.out.size (fun k hk => by cases hk; rw [HG.out]; exact Nat.le_refl _)).grown s4 (Nat.le_trans HBW.out.size s2.size) (fun k hk => by cases hk; rw [HG.out]; exact Nat.le_refl _))
          clear s1 s2 s3 s4
          generalize rd z (i : Int) = zi at *
          generalize rd z (k : Int) = zk at *
          have hci' : wr.cell? ((⟨g, 0, none⟩ : Addr).add i) = some (.int .i64 zi) := by rw [add_plain]; exact hci
          have hfi' : wr.frozen? ((⟨g, 0, none⟩ : Addr).add i) = false := by rw [add_plain]; exact hfi
          have hck' : wr.cell? ((⟨g, 0, none⟩ : Addr).add k) = some (.int .i64 zk) := by rw [add_plain]; exact hck
          have hfk' : wr.frozen? ((⟨g, 0, none⟩ : Addr).add k) = false := by rw [add_plain]; exact hfk
          go_wp2_with fail
          by_cases hik : i = k
          · subst hik
            rw [hci] at hck
            injection hck with hck; injection hck with _ hck; subst hck
            go_region
            go_wp2_with fail
            go_roundw
            case rel => exact ⟨i + 1, _, by omega, by go_num, HPW, HS1, ⟨HS2.out.drew⟩⟩
            case measure => simp [intOf]; omega
          · have hik' : ¬ k = i := fun h => hik h.symm
            go_region
            go_wp2_with fail
            go_roundw
            case rel => exact ⟨i + 1, _, by omega, by go_num, HPW, HS1, ⟨HS2.out.drew⟩⟩
            case measure => simp [intOf]; omega
        · have hlt' : ¬ (i : Int) < (n : Int) := by omega
          obtain rfl : n = i := by omega
          have hzl : z.length = n := by rw [HP.out.length_eq, idL_len]
          have HS : Aside0 (AS w1 wr (.slice (some ⟨g, 0, none⟩) n n) (.slice none 0 0) (.slice none 0 0) z (thereL z 0) (backL z 0)) := ⟨⟨HBW.out, by rw [hzl]; exact HO.out, World.ownsRow_nil _ _ _ _, World.ownsRow_nil _ _ _ _, fun k hk => by cases hk⟩⟩
          clear HO HBW
          go_wp2_with fail
          go_loopw [9, 10, 71] (fun v9 v10 v71 wr => ∃ q : Nat, q ≤ n ∧ v71 = .int .i64 q ∧ Aside0 (AS w1 wr (.slice (some ⟨g, 0, none⟩) n n) v9 v10 z (thereL z q) (backL z q))) (fun _ _ v71 _ => n - (intOf v71).toNat)
          case atStart => exact ⟨0, Nat.zero_le _, rfl, HS⟩
          case round =>
            clear HS
            obtain ⟨q, hq, rfl, HS⟩ := hrel
            by_cases hlt : q < n
            · have hlt' : (q : Int) < (n : Int) := by omega
              have hA := HS.out.rA
              rw [hzl] at hA
              obtain ⟨hcq, hfq⟩ := own_at hA (q : Int) (by omega) hlt'
              rw [Int.toNat_natCast] at hcq
              clear hA hfq
              have hcq' : wr.cell? ((⟨g, 0, none⟩ : Addr).add q) = some (.int .i64 (rd z (q : Int))) := by rw [add_plain]; exact hcq
              have HMT : Aside0 (thereM z q = ⟨(q : Int), rd z (q : Int)⟩) := ⟨rfl⟩
              have HMB : Aside0 (backM z q = ⟨rd z (q : Int), (q : Int)⟩) := ⟨rfl⟩
              have HL := Aside0.mk (thereL_len z q)
              have HL2 := Aside0.mk (backL_len z q)
              have HTS := Aside0.mk (thereL_succ z q)
              have HBS := Aside0.mk (backL_succ z q)
              rw [HMT.out] at HTS
              rw [HMB.out] at HBS
              clear HMT HMB
              generalize rd z (q : Int) = y at *
              go_wp2_with (first | (at_builtin; refine app_new_where rfl (.tmp 76) (.tmp 80) 22 35 (.agg #[.int .i64 0, .int .i64 0]) 2 16 rfl Try.underlying22 info35 rfl (by decide) rfl HS.out.rT _ 1 rfl rfl rfl (fun u hu => by simp at hu; rcases hu with rfl | rfl <;> rfl) (by rw [HL.out]; omega) (by rw [HL.out]; omega) HS.out.bel.size ?_; intro v2 w3 ho hg hw; have n_ := Aside0.mk (HS.out.madeT (x := ⟨(q : Int), y⟩) ho rfl rfl hg hw); clear HS ho hg hw; have HS := n_; clear n_) | (at_builtin; refine app_new_where rfl (.tmp 82) (.tmp 86) 22 35 (.agg #[.int .i64 0, .int .i64 0]) 2 16 rfl Try.underlying22 info35 rfl (by decide) rfl HS.out.rB _ 1 rfl rfl rfl (fun u hu => by simp at hu; rcases hu with rfl | rfl <;> rfl) (by rw [HL2.out]; omega) (by rw [HL2.out]; omega) HS.out.bel.size ?_; intro v2 w3 ho hg hw; have n_ := Aside0.mk (HS.out.madeB (x := ⟨y, (q : Int)⟩) ho rfl rfl hg hw); clear HS ho hg hw; have HS := n_; clear n_))
              go_roundw
              case rel => exact ⟨q + 1, by omega, by go_num, ⟨by rw [HTS.out, HBS.out]; exact HS.out⟩⟩
              case measure => simp [intOf]; omega
            · have hlt' : ¬ (q : Int) < (n : Int) := by omega
              obtain rfl : n = q := by omega
              have HIT : Aside0 (∀ x ∈ thereL z n, inR x.f0 ∧ inR x.f1) := ⟨fun x hx => by
                obtain ⟨q, hq, rfl⟩ := there_mem hx
                obtain ⟨k, hk, e⟩ := rd_in HP.out hq
                have h1 : (thereM z q).f0 = (q : Int) := rfl
                have h2 : (thereM z q).f1 = rd z (q : Int) := rfl
                rw [h1, h2]; unfold inR; omega⟩
              have HIB : Aside0 (∀ x ∈ backL z n, inR x.f0 ∧ inR x.f1) := ⟨fun x hx => by
                obtain ⟨q, hq, rfl⟩ := back_mem hx
                obtain ⟨k, hk, e⟩ := rd_in HP.out hq
                have h1 : (backM z q).f0 = rd z (q : Int) := rfl
                have h2 : (backM z q).f1 = (q : Int) := rfl
                rw [h1, h2]; unfold inR; omega⟩
              obtain ⟨al, hal⟩ : ∃ a, a = (orderF (-5) ((thereL z n).map toE)).map ofE := ⟨_, rfl⟩
              obtain ⟨bl, hbl⟩ : ∃ b, b = (orderF (-5) ((backL z n).map toE)).map ofE := ⟨_, rfl⟩
              obtain ⟨G1, G2, G3⟩ := all_good HP.out al bl hal hbl
              have HAL := Aside0.mk hal
              have HBL := Aside0.mk hbl
              have HG3 := Aside0.mk G3
              have HTO := Aside0.mk (there_ok HP.out)
              have HBO := Aside0.mk (back_ok HP.out)
              have h5 : Aside0 (inR (-5)) := ⟨by unfold inR; omega⟩
              obtain ⟨h, hh⟩ : ∃ h, h = n / 2 := ⟨_, rfl⟩
              rw [← hh] at G1 G2
              have hnq : (n : Int).tdiv 2 = (h : Int) := by
                rw [Int.tdiv_eq_ediv_of_nonneg (by omega)]; omega
              have a9 : wrap64 (h : Int) = (h : Int) := w_small _ (by omega) (by omega)
              have a10 : wrap64 ((n : Int) + (h : Int)) = (n : Int) + (h : Int) := w_small _ (by omega) (by omega)
              have a11 : IntKind.i64.wrap ((n : Int) + (h : Int)) = (n : Int) + (h : Int) := IntWalk.i64_in _ (by omega)
              have b1 : (al.length : Int) ≤ (n : Int) + (h : Int) := by omega
              have b2 : (bl.length : Int) ≤ (n : Int) + (h : Int) := by omega
              have hla : al.length ≤ 150 := by omega
              have hlb : bl.length ≤ 150 := by omega
              have hT := HS.out.rT
              have hBk := HS.out.rB
              rw [thereL_len] at hT
              rw [backL_len] at hBk
              obtain ⟨AT, cT, eT⟩ := MapInt.own_slice' hT
              obtain ⟨AB, cB, eB⟩ := MapInt.own_slice' hBk
              subst eT
              subst eB
              have HCT := Aside0.mk (own_C hT (thereL_len z n).symm)
              have HCB := Aside0.mk (own_C hBk (backL_len z n).symm)
              have HLT := Aside0.mk (thereL_len z n)
              have HLB := Aside0.mk (backL_len z n)
              have HBW := Aside0.mk (below_step HB.out HS.out.bel)
              clear hal hbl G1 G2 G3 hh hT hBk HS HB
              have HBO2 := Aside0.mk (Below.refl wr.heap.size wr)
              obtain ⟨ab, hab⟩ : ∃ ab, ab = al ++ bl := ⟨_, rfl⟩
              have HAB := Aside0.mk hab
              have hlab : ab.length ≤ 300 := by rw [hab, List.length_append]; omega
              clear hab
              go_wp2_with (first | (go_at_call 10; (with_reducible refine (order_taken AT cT n (thereL z n) (-5) _ al HLT.out.symm (Kd.C_below HCT.out.2.2 HBO2.out) HCT.out.2.1 (by rw [HLT.out]; omega) HIT.out h5.out HTO.out HAL.out).mono ?_); rintro e w5 ⟨A9, c9, rfl, _, h9, hb9⟩; have H9 := Aside0.mk h9; have n_ := Aside0.mk (below_step HBO2.out hb9); clear HBO2 h9 hb9; have HBO2 := n_; clear n_) | (go_at_call 10; (with_reducible refine (order_taken AB cB n (backL z n) (-5) _ bl HLB.out.symm (Kd.C_below HCB.out.2.2 HBO2.out) HCB.out.2.1 (by rw [HLB.out]; omega) HIB.out h5.out HBO.out HBL.out).mono ?_); rintro e w6 ⟨A10, c10, rfl, h10, _, hb10⟩; have H10 := Aside0.mk h10; have n_ := Aside0.mk (Kd.R_below H9.out hb10); clear H9; have H9 := n_; clear n_; have n_ := Aside0.mk (below_step HBO2.out hb10); clear HBO2 h10 hb10; have HBO2 := n_; clear n_) | (at_builtin; refine Kd.R_append_rows k35 (w0 := wr) wr.heap.size rfl (.tmp 101) (.tmp 102) 22 35 (.agg #[.int .i64 0, .int .i64 0]) 16 rfl Try.underlying22 info35 rfl (by decide) (by decide) (.slice A9 al.length c9) al bl A10 bl.length c10 (fun _ => True) (fun _ => False) rfl rfl (Kd.R_alloc H9.out _) (Kd.C_alloc H10.out _) (fun x cs hx => by obtain rfl := k35_open hx; exact k35_mkM _ _ _ _) (fun _ hk => hk.elim) (fun _ _ => trivial) (HBO2.out.alloc HBO2.out.size _) (by have := HBO2.out.size; simp; omega) (by omega) ?_; intro v11 w7 h11 hb11 hg11 hw11; obtain ⟨A11, c11, e11⟩ := Kd.R_slice h11; subst e11; rw [← HAB.out] at h11 ⊢; have HK := Aside0.mk ((Blk.made w6 33 #[.slice none 0 0, .slice none 0 0]).kept hg11 (by obtain ⟨_, inner, ho, _⟩ := Kd.R_alloc H9.out (.cells #[.slice none 0 0, .slice none 0 0] 33); exact (Blk.made w6 33 #[.slice none 0 0, .slice none 0 0]).ne_own ho (by decide))); have HZ6 := Aside0.mk (Nat.le_trans HBW.out.size HBO2.out.size); have H11 := Aside0.mk h11; have HB7 := Aside0.mk (below_step HBW.out hb11); clear h11 hb11 hg11 hw11))
              have HS : Aside0 (PG w7 w7 w6.heap.size (.slice none 0 0) (.slice none 0 0) [] []) := ⟨⟨World.grownBy.refl _ _, HK.out, World.ownsRow_nil _ _ _ _, World.ownsRow_nil _ _ _ _, (fun k hk => by cases hk), rfl⟩⟩
              obtain ⟨b, hbb⟩ : ∃ b, b = w6.heap.size := ⟨_, rfl⟩
              rw [← hbb] at HS HK HZ6 ⊢
              clear hbb
              go_loopw [105] (fun v105 wr => ∃ (j : Nat) (vA vH : Value) (ats hs : List Int), j ≤ ab.length ∧ v105 = .int .i64 j ∧ Aside0 (PG w7 wr b vA vH ats hs) ∧ Aside0 ((∀ y, tellP ats hs y = runTo ab j y) ∧ ats.length ≤ j)) (fun v105 _ => ab.length - (intOf v105).toNat)
              case atStart => exact ⟨0, _, _, [], [], Nat.zero_le _, rfl, HS, ⟨fun y => by rw [runTo_zero]; rfl, Nat.le_refl _⟩⟩
              case round =>
                clear HS
                obtain ⟨j, vA, vH, ats, hs, hj, rfl, HS, HT⟩ := hrel
                by_cases hlt9 : j < ab.length
                · have hlt9' : (j : Int) < (ab.length : Int) := by omega
                  obtain ⟨ad9, rfl, hx0, hx1⟩ := at_T35 (Kd.R_reads' (R35_kept H11.out HK.out HS.out.gr)).2.2 (j : Int) (by omega) hlt9'
                  rw [Int.toNat_natCast] at hx0 hx1
                  have HN_ := Aside0.mk (runTo_succ ab j hlt9)
                  have HRT := HT.out.1 (rd_T35 ab j).f1
                  have HAT := Aside0.mk HT.out.2
                  have HTT := Aside0.mk HT.out.1
                  clear HT
                  generalize (rd_T35 ab j).f0 = t at *
                  generalize (rd_T35 ab j).f1 = a at *
                  have HRA := Aside0.mk HRT
                  clear HRT
                  go_wp2_with fail
                  go_region_with (first | (go_at_call 13; (with_reducible refine (getG_calls w7 _ b vA vH ats hs a (HS.out.step _) (by have := HAT.out; omega)).mono ?_); rintro e w2 ⟨rfl, rfl⟩) | (go_at_call 12; (with_reducible refine (setG_calls w7 _ b vA vH ats hs t (tellP ats hs a) (HS.out.step _) (by have := HAT.out; omega)).mono ?_); rintro e w2 ⟨rfl, vA', vH', ats', hs', hp, ht, hl⟩))
                  all_goals
                    have HP2 := Aside0.mk hp
                    have HY := Aside0.mk ht
                    have HL := Aside0.mk hl
                    clear hp ht hl HS
                    go_wp2_with fail
                    go_roundw
                    case rel => exact ⟨j + 1, _, _, _, _, by omega, by go_num, HP2, ⟨fun y => by rw [HY.out, HN_.out, HRA.out, HTT.out], by have h1 := HL.out; have h2 := HAT.out; omega⟩⟩
                    case measure => simp [intOf]; omega
                · have hlt9' : ¬ (j : Int) < (ab.length : Int) := by omega
                  obtain rfl : j = ab.length := by omega
                  have HG4 : Aside0 (∀ i, i < n → tellP ats hs (i : Int) = (i : Int)) := ⟨fun i hi => by rw [HT.out.1, HAB.out]; exact HG3.out i hi⟩
                  have HAT := Aside0.mk HT.out.2
                  clear HT
                  go_wp2_with fail
                  go_loopw [119] (fun v119 wr => ∃ i : Nat, i ≤ n ∧ v119 = .int .i64 i ∧ Aside0 (PG w7 wr b vA vH ats hs)) (fun v119 _ => n - (intOf v119).toNat)
                  case atStart => exact ⟨0, Nat.zero_le _, rfl, HS⟩
                  case round =>
                    clear HS
                    obtain ⟨i, hi, rfl, HS⟩ := hrel
                    by_cases hlt : i < n
                    · have hlt' : (i : Int) < (n : Int) := by omega
                      have HGI := Aside0.mk (HG4.out i hlt)
                      go_wp2_with (first | (go_at_call 13; (with_reducible refine (getG_calls w7 _ b vA vH ats hs _ HS.out (by have := HAT.out; omega)).mono ?_); rintro e w2 ⟨rfl, rfl⟩; rw [HGI.out]))
                      go_roundw
                      case rel => exact ⟨i + 1, by omega, by go_num, HS⟩
                      case measure => simp [intOf]; omega
                    · have hlt' : ¬ (i : Int) < (n : Int) := by omega
                      obtain rfl : n = i := by omega
                      go_wp2_with fail
                      (try go_ret)
                      exact ⟨rfl, HB7.out.grown HS.out.gr HB7.out.size (fun k hk => by cases hk; exact HZ6.out)⟩
set_option maxHeartbeats 8000000 in
set_option maxRecDepth 100000 in
theorem all_long (A0 : Option Addr) (c0 n : Nat) (W : World) (hn : 100 < n) (hm : n ≤ 9223372036854775807) :
    Calls Try.prog 6 #[.slice A0 n c0] W fun e w' => e = .returned (.bool true) ∧ Below W.heap.size W w' := by
  have HB := Aside0.mk (Below.refl W.heap.size W)
  have HHE := Aside0.mk holds_eval
  have hz1 : 100 < (n : Int) := by omega
  go_enter Try.func6, Try.ntmps6
  go_wp2_with (first | (go_at_call 8; (with_reducible refine (regletlaw18_holds.calls true _ HHE.out).mono ?_); rintro e w1 ⟨rfl, hb1⟩; have n_ := Aside0.mk (below_step HB.out hb1); clear HB hb1; have HB := n_; clear n_))
  (try go_ret)
  exact ⟨rfl, HB.out⟩
theorem movesAll_walk (a0 : Option Addr) (len0 cap0 : Nat) (z0 : List Int) (w : World) (w0 : (a0 = none ∧ len0 = 0 ∧ cap0 = 0 ∧ z0 = []) ∨ ∃ x, a0 = some x ∧ len0 ≤ cap0 ∧ cap0 ≤ maxLen ∧ z0.length = cap0 ∧ (∀ i, i < z0.length → w.cell? (x.add i) = some (.int .i64 (z0.getD i 0))) ∧ ∀ n ∈ z0, (Lit.int .i64 n).wf = true)
    (_y0 : len0 * 8 ≤ 140737488351232) : Calls Try.prog 6 #[.slice a0 len0 cap0] w fun e w' => e = .returned (.bool true) ∧ Below w.heap.size w w' := by
  obtain ⟨l0, rfl, hr0, hm0, hw0, hc0⟩ := ReadsInt.ofRowC w0
  have hC := Kd.C_of_reads (d := (0 : Int)) (h1 := fun _ => rfl) hr0
  by_cases h : l0.length ≤ 100
  · exact all_x a0 cap0 l0 w hC h (fun x hx => wf_inR (hw0 x hx))
  · exact all_long a0 cap0 l0.length w (by omega) (Kd.C_max hC)
end Go.Proofs.Ytjolnfhgiddafaa.PAll
