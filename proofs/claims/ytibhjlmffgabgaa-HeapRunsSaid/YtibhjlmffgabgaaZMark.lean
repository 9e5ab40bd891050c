import Derived.Test.YtibhjlmffgabgaaZRefs
import Derived.Test.YtibhjlmffgabgaaZMarkPure
namespace Go.Proofs.Ytibhjlmffgabgaa.PAll
open Go.RowKit Go.Proofs.YtibhjlmffgabgaaW.PrintWords Go.Proofs.YtibhjlmffgabgaaW.PrintLast Go.Proofs.YtibhjlmffgabgaaW.PrintMore
open Go.Proofs.Ytibhjlmffgabgaa.MapInt
set_option linter.unusedVariables false
set_option linter.unusedSimpArgs false
theorem sz_alloc (w : World) (o : Obj) : (w.alloc o).heap.size = w.heap.size + 1 := by show (w.heap.push o).size = _; simp
theorem isref_at {w : World} {A0 : Option Addr} {c0 : Nat} {f1 f2 : Bool} {refs : List Bool} (hC : Kd.bool.C w A0 refs.length refs) (hc : refs.length ≤ c0) (i : Nat) (hi : f1 = false → i < refs.length) :
    Calls Try.prog 38 #[.agg #[.slice A0 refs.length c0, .bool f1, .bool f2], .int .i64 (i : Int)] w fun e w' => e = .returned (.bool (if f1 = true then f2 else refs.getD i false)) ∧ Below w.heap.size w w' := by
  refine heap_shape_isRef.calls A0 c0 refs f1 f2 (i : Int) _ w hC hc ?_
  unfold heap_shape_isRef.f
  cases f1 with
  | true => rfl
  | false =>
    have := hi rfl
    show (if 0 ≤ (i : Int) then (if (i : Int) < (refs.length : Int) then some (rdOf false refs (i : Int)) else none) else none) = some (refs.getD i false)
    rw [if_pos (by omega), if_pos (by omega)]
    unfold rdOf
    rw [Int.toNat_natCast]
theorem mk_start {w : World} {g : Nat} : MK w ((((w.alloc (.cells #[.pointer (some ⟨g, 0, none⟩)] 23)).alloc (.map #[] 0)).alloc (.cells #[.map (some (w.heap.size + 1))] 66)).alloc (.cells #[.slice none 0 0] 30)) g w.heap.size (w.heap.size + 1 + 1) (w.heap.size + 1 + 1 + 1) (w.heap.size + 1) (fun _ => false) 0 (.slice none 0 0) [] := by
  have e1 := sz_alloc w (.cells #[.pointer (some ⟨g, 0, none⟩)] 23)
  have e2 := sz_alloc (w.alloc (.cells #[.pointer (some ⟨g, 0, none⟩)] 23)) (.map #[] 0)
  have e3 := sz_alloc ((w.alloc (.cells #[.pointer (some ⟨g, 0, none⟩)] 23)).alloc (.map #[] 0)) (.cells #[.map (some (w.heap.size + 1))] 66)
  rw [e1] at e2
  rw [e2] at e3
  refine ⟨below_alloc (below_alloc (below_alloc (below_alloc (Below.refl _ _) _) _) _) _, (((Blk.made _ _ _).alloc _).alloc _).alloc _, ?_, ?_, ?_, ⟨rfl, .inl ⟨rfl, rfl⟩⟩, by omega, by omega⟩
  · have := (Blk.made ((w.alloc (.cells #[.pointer (some ⟨g, 0, none⟩)] 23)).alloc (.map #[] 0)) 66 #[.map (some (w.heap.size + 1))]).alloc (.cells #[.slice none 0 0] 30)
    rw [e2] at this; exact this
  · have := Blk.made (((w.alloc (.cells #[.pointer (some ⟨g, 0, none⟩)] 23)).alloc (.map #[] 0)).alloc (.cells #[.map (some (w.heap.size + 1))] 66)) 30 #[.slice none 0 0]
    rw [e3] at this; exact this
  · have := (BM.made Try.prog (w.alloc (.cells #[.pointer (some ⟨g, 0, none⟩)] 23)))
    rw [e1] at this
    exact (this.below ((Below.refl _ _).alloc (Nat.le_refl _) _)).below ((Below.refl _ _).alloc (Nat.le_refl _) _)
theorem MK.popped {W w w3 : World} {g b2 b5 b6 bm n : Nat} {S : Int → Bool} {A : Option Addr} {c : Nat} {O : List Int} {a : Int} (h : MK W w g b2 b5 b6 bm S n (.slice A (O.length + 1) c) (O ++ [a])) (hb : Blk w3 b6 30 #[.slice A O.length c]) (hg : w.grownBy w3 (some b6)) : MK W w3 g b2 b5 b6 bm S n (.slice A O.length c) O := by
  have ho := h.own
  rw [List.length_append] at ho
  have ho2 := own_take (m := O.length) ho (by simp)
  rw [nums_append, Nat.mul_one, List.take_left' (by simp [nums])] at ho2
  exact ⟨h.bel.grown hg h.bel.size (fun k hk => by cases hk; exact h.g6), h.k2.kept hg (fun e => by injection e with e; exact h.k2.ne_type h.k6 (by decide) e), h.k5.kept hg (fun e => by injection e with e; exact h.k5.ne_type h.k6 (by decide) e), hb, h.map.kept hg (fun e => by injection e with e; exact h.map.ne_cells h.k6 e), own_kept ho2 hg (fun k hk e => own_ne_cells ho2 h.k6 (by decide) (e.symm.trans hk.symm)), h.g6, h.gm⟩
def RelM (shs : List S65) (T : List Thg) (roots : List Int) (w wr : World) (g b2 b5 b6 bm : Nat) (m : Nat) : Prop :=
  ∃ S n v O, MK w wr g b2 b5 b6 bm S n v O ∧ MI shs T roots (fun _ => False) S O n ∧ (∀ r ∈ roots, (findT shs T 1 r).isSome = true → S r = true) ∧ m = O.length + 2 * cnt shs T S
set_option maxHeartbeats 16000000 in
set_option maxRecDepth 100000 in
theorem mark_calls {w : World} {base g most : Nat} {P : Nat → Prop} {shs : List S65} {T : List Thg} {mv : Int} (h : AS w base P g most shs T mv) {A : Option Addr} {c : Nat} {roots : List Int} (hr : Kd.C (Kd.int .i64) w A roots.length roots) (hc : roots.length ≤ c) (hin : ∀ r ∈ roots, inR r) :
    Calls Try.prog 36 #[.pointer (some ⟨g, 0, none⟩), .slice A roots.length c] w fun e w' => ∃ bm S n, e = .returned (.map (some bm)) ∧ BM Try.prog w' bm n S ∧ n ≤ T.length ∧ (∀ x, S x = true ↔ Rch shs T roots x) ∧ Below w.heap.size w w' ∧ w.heap.size ≤ bm := by
  have HA := Aside0.mk h
  have HR := Aside0.mk hr
  have HIN := Aside0.mk hin
  have hmf : ∀ (fn : Fn) (first cap : Array Value) (w : World), (Instr.makeFunc fn first cap).run Try.prog w = .ok (.func fn first cap) w := fun _ _ _ _ => rfl
  have hmk : ∀ w : World, (Instr.makeMap 66 none).run Try.prog w = .ok (.map (some w.heap.size)) (w.alloc (.map #[] 0)) := fun w => by simp [Instr.makeMap, run_underlying Try.underlying66, Result.andThen]
  have hT : T.length ≤ 65536 := by have := len_sum shs T; have := h.room; have := h.bnd; omega
  have hmaxr := Kd.C_max hr
  clear h hr hin
  go_enter Try.func36, Try.ntmps36
  go_wp2_with fail
  go_loopw [19] (fun v19 wr => ∃ (i : Nat) (S : Int → Bool) (n : Nat) (v : Value) (O : List Int), i ≤ roots.length ∧ v19 = .int .i64 i ∧ Aside0 (MK w wr g w.heap.size (w.heap.size + 1 + 1) (w.heap.size + 1 + 1 + 1) (w.heap.size + 1) S n v O ∧ MI shs T roots (fun _ => False) S O n ∧ ∀ r ∈ roots.take i, (findT shs T 1 r).isSome = true → S r = true)) (fun v19 _ => roots.length - (intOf v19).toNat)
  case atStart => exact ⟨0, _, 0, _, [], Nat.zero_le _, rfl, ⟨mk_start, MI.start, fun r hr => by simp at hr⟩⟩
  case round =>
    obtain ⟨i, S, n, v, O, hi, rfl, HI⟩ := hrel
    have h5 := HI.out.2.1.i5
    have h6 := HI.out.2.1.i6
    by_cases hlt : i < roots.length
    · have hlt' : (i : Int) < (roots.length : Int) := by omega
      obtain ⟨ad, rfl, hcx⟩ := Kd.at_int (Kd.C_below HR.out HI.out.1.bel) (i : Int) (by omega) hlt'
      rw [Int.toNat_natCast] at hcx
      obtain ⟨r, hrr⟩ : ∃ r, r = rd roots (i : Int) := ⟨_, rfl⟩
      rw [← hrr] at hcx
      have hmem : r ∈ roots := by rw [hrr]; unfold rd; rw [Int.toNat_natCast, List.getD_eq_getElem?_getD, List.getElem?_eq_getElem hlt]; exact List.getElem_mem _
      have HTK : Aside0 (roots.take (i + 1) = roots.take i ++ [r]) := ⟨by rw [hrr]; unfold rd; rw [Int.toNat_natCast, List.take_succ_eq_append_getElem hlt, List.getD_eq_getElem?_getD, List.getElem?_eq_getElem hlt]; rfl⟩
      have HV := Aside0.mk (visit_calls HA.out HI.out.1 (by omega) (by omega) r (HIN.out r hmem))
      have HMEM := Aside0.mk hmem
      clear hrr hmem h5 h6
      go_wp2_with (first | (go_at_call 47; (with_reducible refine (HV.out).mono ?_); rintro e wv ⟨rfl, v', hm, _⟩; have HM2 := Aside0.mk hm; clear hm))
      go_roundw
      case rel =>
        refine ⟨i + 1, _, _, v', _, by omega, by go_num, ⟨HM2.out, (HI.out.2.1.visit (fun hx => .root HMEM.out hx)).1, fun q hq hf => ?_⟩⟩
        rw [HTK.out] at hq
        rcases List.mem_append.1 hq with e | e
        · exact vis_sub _ _ (HI.out.2.2 q e hf)
        · simp at e; subst e; exact vis_in hf
      case measure => (simp [intOf]; try omega)
    · have hlt' : ¬ (i : Int) < (roots.length : Int) := by omega
      obtain rfl : i = roots.length := by omega
      rw [List.take_length] at HI
      clear h5 h6
      go_wp2_with fail
      go_loopw [10] (fun _ wr => ∃ m, Aside0 (RelM shs T roots w wr g w.heap.size (w.heap.size + 1 + 1) (w.heap.size + 1 + 1 + 1) (w.heap.size + 1) m)) (fun _ wr => leastM (RelM shs T roots w wr g w.heap.size (w.heap.size + 1 + 1) (w.heap.size + 1 + 1 + 1) (w.heap.size + 1)))
      case atStart => exact ⟨_, ⟨S, n, v, O, HI.out.1, HI.out.2.1, HI.out.2.2, rfl⟩⟩
      case round =>
        clear HI
        obtain ⟨m1, hm1⟩ := hrel
        obtain ⟨hsp, hmin⟩ := least_spec ⟨m1, hm1.out⟩
        have HLE : Aside0 (leastM (RelM shs T roots w wr g w.heap.size (w.heap.size + 1 + 1) (w.heap.size + 1 + 1 + 1) (w.heap.size + 1)) = leastM (RelM shs T roots w wr g w.heap.size (w.heap.size + 1 + 1) (w.heap.size + 1 + 1 + 1) (w.heap.size + 1))) := ⟨rfl⟩
        obtain ⟨S, n, v, O, hMK, hMI, hRR, hmeq⟩ := hsp
        have HMEQ := Aside0.mk hmeq
        have HM := Aside0.mk hMK
        have HMI := Aside0.mk hMI
        have HRR := Aside0.mk hRR
        have h5 := hMI.i5
        have h6 := hMI.i6
        obtain ⟨A1, c1, rfl⟩ := own_slice' hMK.own
        have x6 := hMK.k6.cell (o := 0) (v := .slice A1 O.length c1) rfl
        have x5 := hMK.k5.cell (o := 0) (v := .map (some (w.heap.size + 1))) rfl
        clear hm1 hmin hmeq hMK hMI hRR
        by_cases hOn : O = []
        · subst hOn
          have HEND := Aside0.mk (HMI.out.end_ HRR.out)
          clear h5 h6
          have hnT : n ≤ T.length := by have := HMI.out.i5; omega
          go_wp2_with fail
          (try go_ret)
          first
            | exact ⟨_, S, n, rfl, HM.out.map, hnT, HEND.out, HM.out.bel, HM.out.gm⟩
            | exact ⟨_, rfl, S, n, HM.out.map, hnT, HEND.out, HM.out.bel, HM.out.gm⟩
            | exact ⟨_, rfl, ⟨S, ⟨n, HM.out.map, hnT⟩, HEND.out⟩, HM.out.bel, HM.out.gm⟩
        · obtain ⟨O', a, rfl⟩ : ∃ O' a, O = O' ++ [a] := ⟨O.dropLast, O.getLast hOn, (List.dropLast_concat_getLast hOn).symm⟩
          clear hOn
          have hla : S a = true := HMI.out.i2 a (by simp)
          have hRa := HMI.out.i1 a hla
          have hfa := hRa.found
          obtain ⟨t, ht⟩ : ∃ t, findT shs T 1 a = some t := by
            cases e : findT shs T 1 a with
            | none => rw [e] at hfa; cases hfa
            | some t => exact ⟨t, rfl⟩
          have HTT := Aside0.mk ht
          obtain ⟨gw, gs, shV, w0, junk, hMW⟩ := HA.out.mem
          obtain ⟨na, rfl, hn1, hn2, hn3, hn4⟩ := ws_thing (w0 := w0) (junk := junk) ht
          have hroom := HA.out.room
          have hbnd := HA.out.bnd
          have htsz : tsz shs t = hd shs t + t.xs.length := by unfold tsz hd; split <;> rfl
          have HWD : Aside0 (∀ wy, Below w.heap.size w wy → wy.cell? ⟨g, 0, none⟩ = some (.slice (some ⟨gw, 0, none⟩) (most + 1) (most + 1)) ∧ ∀ i, i < t.xs.length → wy.cell? ⟨gw, na + hd shs t + i, none⟩ = some (.int .i64 (t.xs.getD i 0))) := ⟨fun wy hb => ⟨(hMW.below hb).c0, fun i hi => by
            rw [Nat.add_assoc, (hMW.below hb).cw (by omega), hn4 _ _ (enc_x shs t i hi)]⟩⟩
          have HWR := Aside0.mk (HA.out.wrd t hn3)
          have hokt := HA.out.things t hn3
          have HOB := Aside0.mk hokt.2.1
          have hlen : t.xs.length ≤ 131072 := hokt.2.2
          have hna : na + hd shs t + t.xs.length ≤ most + 1 := by omega
          have hmost : most + 1 ≤ 65537 := by omega
          clear hMW hn4 hn3 hn2 hroom hbnd htsz hokt
          generalize most + 1 = m at *
          have HRA := Aside0.mk hRa
          rw [List.length_append] at x6 h6
          simp only [List.length_cons, List.length_nil, Nat.zero_add] at x6 h6
          have HMx : Aside0 (MK w wr g w.heap.size (w.heap.size + 1 + 1) (w.heap.size + 1 + 1 + 1) (w.heap.size + 1) S n (.slice A1 (O'.length + 1) c1) (O' ++ [(na : Int)])) := ⟨by have := HM.out; rw [List.length_append] at this; exact this⟩
          have hown := HMx.out.own
          have hC1 := (Kd.R_reads' (Kd.R_of_own (enc := Value.int .i64) (h1 := fun _ => rfl) (ok := fun _ => True) hown (fun _ _ => trivial)))
          obtain ⟨ad, rfl, hcx⟩ := Kd.at_int hC1.2.2 (O'.length : Int) (by omega) (by rw [List.length_append]; simp; omega)
          have hv : rd (O' ++ [(na : Int)]) (O'.length : Int) = (na : Int) := by unfold rd; rw [Int.toNat_natCast]; simp
          rw [hv, Int.toNat_natCast] at hcx
          have hcap : O'.length + 1 ≤ c1 := by have := hC1.2.1; simpa using this
          have hcapI : (O'.length : Int) ≤ (c1 : Int) := by omega
          clear hown hC1 hv hla hRa hfa ht HM
          go_wp2_with (first | ((with_reducible refine gate_store (t := 30) (p := 6) (v := .tmp 40) rfl ?_); refine cell_store rfl 30 (.tmp 6) (.tmp 40) rfl oi30 (q := 0) (v := .slice (some ad) O'.length c1) rfl rfl rfl HMx.out.k6 (show (0 : Nat) < 1 by decide) ?_; intro w5 hb5 hg5 hz5; clear hz5; have HMP := Aside0.mk (HMx.out.popped hb5 hg5); have p2 := HMP.out.k2.cell (o := 0) (v := .pointer (some ⟨g, 0, none⟩)) rfl; clear hb5 hg5 x6 x5 hcx) | (go_at_call 37; (with_reducible refine (refs_calls HA.out HMP.out.bel HTT.out).mono ?_); rintro e wq ⟨A0, cc0, rfl, hcc, hCC, hbq⟩; have HMQ := Aside0.mk (HMP.out.below hbq); have HCC := Aside0.mk hCC; have HCL := Aside0.mk hcc; clear hbq hCC hcc p2))
          have HMQ1 := Aside0.mk (HMQ.out.below (below_alloc (Below.refl _ _) (.cells #[.slice A0 (shOf shs t.s).f0.length cc0, .bool (shOf shs t.s).f1, .bool (shOf shs t.s).f2] 65)))
          have HB13 : Aside0 (Blk (wq.alloc (.cells #[.slice A0 (shOf shs t.s).f0.length cc0, .bool (shOf shs t.s).f1, .bool (shOf shs t.s).f2] 65)) wq.heap.size 65 #[.slice A0 (shOf shs t.s).f0.length cc0, .bool (shOf shs t.s).f1, .bool (shOf shs t.s).f2]) := ⟨Blk.made _ _ _⟩
          have HMP2 := Aside0.mk HMI.out.pop
          go_loopw [49] (fun v49 wy => ∃ (i : Nat) (S2 : Int → Bool) (n2 : Nat) (v2 : Value) (O2 : List Int), i ≤ t.xs.length ∧ v49 = .int .i64 i ∧ Aside0 (MK w wy g w.heap.size (w.heap.size + 1 + 1) (w.heap.size + 1 + 1 + 1) (w.heap.size + 1) S2 n2 v2 O2 ∧ MI shs T roots (fun y => y = (na : Int)) S2 O2 n2 ∧ (∀ r ∈ roots, (findT shs T 1 r).isSome = true → S2 r = true) ∧ (∀ j, j < i → isR shs t j = true → (findT shs T 1 (t.xs.getD j 0)).isSome = true → S2 (t.xs.getD j 0) = true) ∧ O2.length + 2 * cnt shs T S2 ≤ O'.length + 2 * cnt shs T S ∧ Blk wy wq.heap.size 65 #[.slice A0 (shOf shs t.s).f0.length cc0, .bool (shOf shs t.s).f1, .bool (shOf shs t.s).f2])) (fun v49 _ => t.xs.length - (intOf v49).toNat)
          case atStart => exact ⟨0, S, n, _, O', Nat.zero_le _, rfl, ⟨HMQ1.out, HMP2.out, HRR.out, fun j hj => by omega, Nat.le_refl _, HB13.out⟩⟩
          case round =>
            clear HMQ1 HB13 HMP2
            obtain ⟨i, S2, n2, v2, O2, hi, rfl, HI⟩ := hrel
            have h5 := HI.out.2.1.i5
            have h6 := HI.out.2.1.i6
            by_cases hlt : i < t.xs.length
            · have hlt' : (i : Int) < (t.xs.length : Int) := by omega
              have HSR := Aside0.mk (isref_at (f1 := (shOf shs t.s).f1) (f2 := (shOf shs t.s).f2) (HCC.out _ HI.out.1.bel) HCL.out i (fun hf => by rw [← HOB.out hf]; exact hlt))
              have HX := Aside0.mk (HWR.out (t.xs.getD i 0) (by rw [List.getD_eq_getElem?_getD, List.getElem?_eq_getElem hlt]; exact List.getElem_mem _))
              obtain ⟨z0, z1, z2⟩ : _ ∧ _ ∧ _ := ⟨HI.out.2.2.2.2.2.cell (o := 0) (v := .slice A0 (shOf shs t.s).f0.length cc0) rfl, HI.out.2.2.2.2.2.cell (o := 1) (v := .bool (shOf shs t.s).f1) rfl, HI.out.2.2.2.2.2.cell (o := 2) (v := .bool (shOf shs t.s).f2) rfl⟩
              have hir : (if (shOf shs t.s).f1 = true then (shOf shs t.s).f2 else (shOf shs t.s).f0.getD i false) = isR shs t i := rfl
              rw [hir] at HSR
              cases hb : isR shs t i with
              | false =>
                rw [hb] at HSR
                clear h5 h6 hir
                go_wp2_with (first | (go_at_call 38; (with_reducible refine (HSR.out).mono ?_); rintro e wz ⟨rfl, hbz⟩; have HBZ := Aside0.mk hbz; clear hbz))
                go_roundw
                case rel =>
                  refine ⟨i + 1, S2, n2, v2, O2, by omega, by go_num, ⟨HI.out.1.below HBZ.out, HI.out.2.1, HI.out.2.2.1, fun j hj hjr hjf => ?_, HI.out.2.2.2.2.1, HI.out.2.2.2.2.2.below HBZ.out⟩⟩
                  rcases Nat.lt_or_ge j i with h | h
                  · exact HI.out.2.2.2.1 j h hjr hjf
                  · obtain rfl : j = i := by omega
                    rw [hb] at hjr; cases hjr
                case measure => (simp [intOf]; try omega)
              | true =>
                rw [hb] at HSR
                obtain ⟨X, hX⟩ : ∃ X, X = t.xs.getD i 0 := ⟨_, rfl⟩
                have HXE := Aside0.mk hX
                have HVS := Aside0.mk (fun wz (hbz : Below _ _ wz) => visit_calls HA.out (HI.out.1.below hbz) (show n2 < 9223372036854775807 by omega) (show O2.length ≤ 1000000 by omega) X (by rw [hX]; exact HX.out))
                have q1 : (na : Int) + (hd shs t : Int) + (i : Int) < (m : Int) := by omega
                have q2 : (m : Int) ≤ 65537 := by omega
                have q3 : (0 : Int) ≤ (na : Int) + (hd shs t : Int) + (i : Int) := by omega
                have HB13 := Aside0.mk HI.out.2.2.2.2.2
                clear h5 h6 hir hX
                go_wp2_with (first | (go_at_call 38; (with_reducible refine (HSR.out).mono ?_); rintro e wz ⟨rfl, hbz⟩; have HBZ := Aside0.mk hbz; have HMZ := Aside0.mk (HI.out.1.below hbz); have p2 := HMZ.out.k2.cell (o := 0) (v := .pointer (some ⟨g, 0, none⟩)) rfl; obtain ⟨c0, cw⟩ := HWD.out _ HMZ.out.bel; replace cw := cw i hlt; rw [← HXE.out] at cw; clear hbz z0 z1 z2) | (go_at_call 47; (with_reducible refine (HVS.out _ HBZ.out).mono ?_); rintro e wv ⟨rfl, v', hm, hk⟩; have HM2 := Aside0.mk hm; have HK2 := Aside0.mk hk; clear hm hk p2 c0 cw))
                go_roundw
                case rel =>
                  obtain ⟨hv1, hv2⟩ := HI.out.2.1.visit (x := X) (fun hx => by rw [HXE.out] at hx ⊢; exact .step HRA.out HTT.out hlt hb hx)
                  refine ⟨i + 1, _, _, v', _, by omega, by go_num, ⟨HM2.out, hv1, fun r hr hf => vis_sub _ _ (HI.out.2.2.1 r hr hf), fun j hj hjr hjf => ?_, ?_, ?_⟩⟩
                  · rcases Nat.lt_or_ge j i with h | h
                    · exact vis_sub _ _ (HI.out.2.2.2.1 j h hjr hjf)
                    · obtain rfl : j = i := by omega
                      rw [HXE.out]; exact vis_in hjf
                  · have := HI.out.2.2.2.2.1; omega
                  · exact HK2.out _ _ _ _ (HB13.out.below HBZ.out) (by decide) (by decide)
                case measure => (simp [intOf]; try omega)
            · have hlt' : ¬ (i : Int) < (t.xs.length : Int) := by omega
              obtain rfl : i = t.xs.length := by omega
              have HD := Aside0.mk (HI.out.2.1.done HTT.out (fun j hj => HI.out.2.2.2.1 j hj))
              clear h5 h6
              go_wp2_with fail
              go_roundw
              case rel => exact ⟨_, ⟨S2, n2, v2, O2, HI.out.1, HD.out, HI.out.2.2.1, rfl⟩⟩
              case measure =>
                have h0 : RelM shs T roots w _ g w.heap.size (w.heap.size + 1 + 1) (w.heap.size + 1 + 1 + 1) (w.heap.size + 1) (O2.length + 2 * cnt shs T S2) := ⟨S2, n2, v2, O2, HI.out.1, HD.out, HI.out.2.2.1, rfl⟩
                have h1 := (least_spec ⟨_, h0⟩).2 _ h0
                have h2 := HMEQ.out
                have h3 := HI.out.2.2.2.2.1
                rw [List.length_append] at h2
                simp at h2
                omega
end Go.Proofs.Ytibhjlmffgabgaa.PAll
