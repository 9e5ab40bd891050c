import Derived.Test.YtibhjlmffgabgaaZArena
import Derived.Test.YtibhjlmffgabgaaZG1
import Derived.Deep.RegionHeld3
namespace Go.Proofs.Ytibhjlmffgabgaa.PAll
open Go.RowKit Go.Proofs.YtibhjlmffgabgaaW.PrintWords Go.Proofs.YtibhjlmffgabgaaW.PrintLast Go.Proofs.YtibhjlmffgabgaaW.PrintMore
open Go.Proofs.Ytibhjlmffgabgaa.MapInt
set_option linter.unusedVariables false
set_option linter.unusedSimpArgs false
structure AS (w : World) (base : Nat) (P : Nat → Prop) (g most : Nat) (shs : List S65) (T : List Thg) (mv : Int) : Prop where
  bnd : 1 ≤ most ∧ most ≤ 65536
  room : sumT shs T ≤ most
  things : ∀ t ∈ T, okT shs t
  shl : ∀ s, (shOf shs s).f0.length ≤ 1000
  wrd : ∀ t ∈ T, ∀ x ∈ t.xs, inR x
  mem : ∃ gw gs shV w0 junk, AM w base P g gw gs (most + 1) ([w0] ++ T.flatMap (encT shs) ++ junk) ([false] ++ T.flatMap (begT shs) ++ List.replicate (most - sumT shs T) false) (1 + sumT shs T : Nat) mv shV shs
set_option maxHeartbeats 8000000 in
set_option maxRecDepth 100000 in
theorem ins_calls {w : World} {base g most : Nat} {P : Nat → Prop} {shs : List S65} {T : List Thg} {mv : Int} (h : AS w base P g most shs T mv) (a : Int) :
    Calls Try.prog 41 #[.pointer (some ⟨g, 0, none⟩), .int .i64 a] w fun e w' => e = .returned (.bool (findT shs T 1 a).isSome) ∧ Below w.heap.size w w' := by
  obtain ⟨gw, gs, shV, w0, junk, hM⟩ := h.mem
  have hroom := h.room
  have c1 := hM.c1
  have c2 := hM.c2
  by_cases h0 : 0 < a
  · by_cases h1 : a < ((1 + sumT shs T : Nat) : Int)
    · obtain ⟨n, rfl⟩ : ∃ n : Nat, a = n := ⟨a.toNat, by omega⟩
      have hs := hM.cs (i := n) (by omega)
      have hb := find_beg (shs := shs) T [false] (List.replicate (most - sumT shs T) false) n (by simp; omega) (by simp; omega)
      rw [List.getD_eq_getElem?_getD, hb] at hs
      have hs2 : w.cell? ⟨gs, n, none⟩ = some (.bool (findT shs T 1 (n : Int)).isSome) := hs
      have hn1 : (n : Int) < ((most + 1 : Nat) : Int) := by omega
      generalize (findT shs T 1 (n : Int)).isSome = b at *
      generalize hnx : ((1 + sumT shs T : Nat) : Int) = nx at *
      generalize hmm : most + 1 = m at *
      clear hs hb hM hnx hmm hroom
      go_enter Try.func41, Try.ntmps41
      go_wp2_with fail
      (try go_ret)
      exact ⟨rfl, Below.refl _ _⟩
    · have hn : findT shs T 1 a = none := by
        cases h8 : findT shs T 1 a with
        | none => rfl
        | some t => have := find_ge T _ _ t h8; have := tsz_pos shs t; omega
      rw [hn]
      generalize ((1 + sumT shs T : Nat) : Int) = nx at *
      clear hM hroom
      go_enter Try.func41, Try.ntmps41
      go_wp2_with fail
      (try go_ret)
      exact ⟨rfl, Below.refl _ _⟩
  · have hn : findT shs T 1 a = none := by
      cases h8 : findT shs T 1 a with
      | none => rfl
      | some t => have := (find_ge T _ _ t h8).1; omega
    rw [hn]
    clear hM hroom c1 c2
    go_enter Try.func41, Try.ntmps41
    go_wp2_with fail
    (try go_ret)
    exact ⟨rfl, Below.refl _ _⟩
theorem ws_thing {shs : List S65} {T : List Thg} {w0 : Int} {junk : List Int} {a : Int} {t : Thg} (hf : findT shs T 1 a = some t) :
    ∃ n : Nat, a = n ∧ 1 ≤ n ∧ n + tsz shs t ≤ 1 + sumT shs T ∧ t ∈ T ∧ ∀ j v, (encT shs t)[j]? = some v → ([w0] ++ T.flatMap (encT shs) ++ junk).getD (n + j) 0 = v := by
  obtain ⟨h1, h2, h3⟩ := find_ge T _ _ t hf
  obtain ⟨n, rfl⟩ : ∃ n : Nat, a = n := ⟨a.toNat, by omega⟩
  refine ⟨n, rfl, by omega, by omega, h3, fun j v hv => ?_⟩
  have := find_lay T [w0] junk n t hf j v hv
  rw [List.getD_eq_getElem?_getD, this]; rfl
theorem enc_s (shs : List S65) (t : Thg) : (encT shs t)[0]? = some (t.s : Int) := by unfold encT; split <;> rfl
theorem enc_n (shs : List S65) (t : Thg) (h : (shOf shs t.s).f1 = true) : (encT shs t)[1]? = some (t.xs.length : Int) := by unfold encT; rw [if_pos h]; rfl
def hd (shs : List S65) (t : Thg) : Nat := if (shOf shs t.s).f1 = true then 2 else 1
theorem enc_x (shs : List S65) (t : Thg) (i : Nat) (h : i < t.xs.length) : (encT shs t)[hd shs t + i]? = some (t.xs.getD i 0) := by
  have e : t.xs[i]? = some (t.xs.getD i 0) := by simp [h]
  unfold encT hd
  split
  · rw [List.getElem?_append_right (by simp), show 2 + i - [(t.s : Int), (t.xs.length : Int)].length = i by simp, e]
  · rw [List.getElem?_append_right (by simp), show 1 + i - [(t.s : Int)].length = i by simp, e]
theorem AM.sh {w : World} {base g gw gs n : Nat} {P : Nat → Prop} {ws : List Int} {sts : List Bool} {nx mv : Int} {shV : Value} {shs : List S65} (h : AM w base P g gw gs n ws sts nx mv shV shs) (s : Nat) (hs : s < shs.length) :
    ∃ ad c A0 c0, shV = .slice (some ad) shs.length c ∧ w.cell? (ad.add (s * 3)) = some (.slice A0 (shOf shs s).f0.length c0) ∧ w.cell? ⟨(ad.add (s * 3)).block, (ad.add (s * 3)).off + 1, none⟩ = some (.bool (shOf shs s).f1) ∧ w.cell? ⟨(ad.add (s * 3)).block, (ad.add (s * 3)).off + 2, none⟩ = some (.bool (shOf shs s).f2) ∧ (shOf shs s).f0.length ≤ c0 ∧ Kd.bool.C w A0 (shOf shs s).f0.length (shOf shs s).f0 := by
  obtain ⟨A, c, rfl, hc, hC⟩ := Kd.N_reads h.shp
  obtain ⟨ad, A0, c0, rfl, y0, y1, y2, y3, y4⟩ := at_T65 hC (s : Int) (by omega) (by omega)
  rw [Int.toNat_natCast] at y0 y1 y2
  have e : rd_T65 shs (s : Int) = shOf shs s := by unfold rd_T65 shOf; rw [Int.toNat_natCast]
  rw [e] at y0 y1 y2 y3 y4
  exact ⟨ad, c, A0, c0, rfl, y0, y1, y2, y3, y4⟩
def shapeT (o : Option Thg) : Int := match o with | none => -1 | some t => t.s
def lenT (o : Option Thg) : Int := match o with | none => 0 | some t => t.xs.length
set_option maxHeartbeats 8000000 in
set_option maxRecDepth 100000 in
theorem shape_calls {w : World} {base g most : Nat} {P : Nat → Prop} {shs : List S65} {T : List Thg} {mv : Int} (h : AS w base P g most shs T mv) (a : Int) :
    Calls Try.prog 21 #[.pointer (some ⟨g, 0, none⟩), .int .i64 a] w fun e w' => e = .returned (.int .i64 (shapeT (findT shs T 1 a))) ∧ Below w.heap.size w w' := by
  have hi := ins_calls h a
  cases hf : findT shs T 1 a with
  | none =>
    rw [hf] at hi
    have HI := Aside0.mk hi
    clear hi h hf
    go_enter Try.func21, Try.ntmps21
    go_wp2_with (first | (go_at_call 41; (with_reducible refine (HI.out).mono ?_); rintro e w1 ⟨rfl, hb⟩; have HB := Aside0.mk hb; clear hb))
    (try go_ret)
    exact ⟨rfl, HB.out⟩
  | some t =>
    rw [hf] at hi
    have HI := Aside0.mk hi
    obtain ⟨gw, gs, shV, w0, junk, hM⟩ := h.mem
    obtain ⟨n, rfl, h1, h2, h3, h4⟩ := ws_thing (w0 := w0) (junk := junk) hf
    have hroom := h.room
    have e1 : ([w0] ++ T.flatMap (encT shs) ++ junk).getD n 0 = (t.s : Int) := h4 0 _ (enc_s shs t)
    have hn : (n : Int) < ((most + 1 : Nat) : Int) := by have := tsz_pos shs t; omega
    have HM := Aside0.mk hM
    have E1 := Aside0.mk e1
    have hlt : n < most + 1 := by omega
    clear hi h hM hf h4 e1 h3 h2 hroom
    generalize [w0] ++ T.flatMap (encT shs) ++ junk = ws at *
    generalize most + 1 = m at *
    go_enter Try.func21, Try.ntmps21
    go_wp2_with (first | (go_at_call 41; (with_reducible refine (HI.out).mono ?_); rintro e w1 ⟨rfl, hb⟩; have HB := Aside0.mk hb; have c0 := (HM.out.below hb).c0; have c1 := (HM.out.below hb).cw hlt; rw [E1.out] at c1; clear hb))
    (try go_ret)
    exact ⟨rfl, HB.out⟩
set_option maxHeartbeats 8000000 in
set_option maxRecDepth 100000 in
theorem len_calls {w : World} {base g most : Nat} {P : Nat → Prop} {shs : List S65} {T : List Thg} {mv : Int} (h : AS w base P g most shs T mv) (a : Int) :
    Calls Try.prog 35 #[.pointer (some ⟨g, 0, none⟩), .int .i64 a] w fun e w' => e = .returned (.int .i64 (lenT (findT shs T 1 a))) ∧ Below w.heap.size w w' := by
  have hi := ins_calls h a
  cases hf : findT shs T 1 a with
  | none =>
    rw [hf] at hi
    have HI := Aside0.mk hi
    clear hi h hf
    go_enter Try.func35, Try.ntmps35
    go_wp2_with (first | (go_at_call 41; (with_reducible refine (HI.out).mono ?_); rintro e w1 ⟨rfl, hb⟩; have HB := Aside0.mk hb; clear hb))
    (try go_ret)
    exact ⟨rfl, HB.out⟩
  | some t =>
    rw [hf] at hi
    have HI := Aside0.mk hi
    obtain ⟨gw, gs, shV, w0, junk, hM⟩ := h.mem
    obtain ⟨n, rfl, h1, h2, h3, h4⟩ := ws_thing (w0 := w0) (junk := junk) hf
    have hroom := h.room
    have hok := h.things t h3
    have e1 : ([w0] ++ T.flatMap (encT shs) ++ junk).getD n 0 = (t.s : Int) := h4 0 _ (enc_s shs t)
    have e2 : (shOf shs t.s).f1 = true → ([w0] ++ T.flatMap (encT shs) ++ junk).getD (n + 1) 0 = (t.xs.length : Int) := fun hh => h4 1 _ (enc_n shs t hh)
    have hn : (n : Int) < ((most + 1 : Nat) : Int) := by have := tsz_pos shs t; omega
    have hn2 : (shOf shs t.s).f1 = true → n + 1 < most + 1 := fun hh => by
      have h9 : tsz shs t = 2 + t.xs.length := by unfold tsz; rw [if_pos hh]
      omega
    have HM := Aside0.mk hM
    have E1 := Aside0.mk e1
    have hlt : n < most + 1 := by omega
    have hss : (t.s : Int) < (shs.length : Int) := by have := hok.1; omega
    have hss2 := hok.1
    have hobj := hok.2.1
    have hm : most + 1 ≤ 100000 := by have := h.bnd; omega
    clear hi h hM hf h4 e1 h3 h2 hroom hok
    generalize [w0] ++ T.flatMap (encT shs) ++ junk = ws at *
    generalize most + 1 = m at *
    go_enter Try.func35, Try.ntmps35
    go_wp2_with (first | (go_at_call 41; (with_reducible refine (HI.out).mono ?_); rintro e w1 ⟨rfl, hb⟩; have HB := Aside0.mk hb; have HM2 := Aside0.mk (HM.out.below hb); clear hb))
    obtain ⟨ad, c, A0, cc0, rfl, y0, y1, y2, y3, y4⟩ := HM2.out.sh t.s hss2
    have c0 := HM2.out.c0
    have c3 := HM2.out.c3
    have c1 := HM2.out.cw hlt
    rw [E1.out] at c1
    go_region_held3 (fun w' => w'.cell? ⟨g, 0, none⟩ = some (.slice (some ⟨gw, 0, none⟩) m m) ∧ w'.cell? ⟨g, 3, none⟩ = some (.slice (some ad) shs.length c) ∧ w'.cell? ⟨gw, n, none⟩ = some (.int .i64 t.s) ∧ w'.cell? (ad.add (t.s * 3)) = some (.slice A0 (shOf shs t.s).f0.length cc0) ∧ w'.cell? ⟨(ad.add (t.s * 3)).block, (ad.add (t.s * 3)).off + 1, none⟩ = some (.bool (shOf shs t.s).f1) ∧ w'.cell? ⟨(ad.add (t.s * 3)).block, (ad.add (t.s * 3)).off + 2, none⟩ = some (.bool (shOf shs t.s).f2)) (go_keep) (fail)
    clear c0 c1 c3 y0 y1 y2
    have HB3 : Below w1.heap.size w1 ((w1.alloc (.cells #[.slice A0 (shOf shs t.s).f0.length cc0, .bool (shOf shs t.s).f1, .bool (shOf shs t.s).f2] 65)).drew) := below_drew (below_alloc (Below.refl _ _) _)
    have HM3 := Aside0.mk (HM2.out.below HB3)
    have HBB := Aside0.mk (below_step HB.out HB3)
    have d0 := HM3.out.c0
    clear HB3
    cases hb : (shOf shs t.s).f1 with
    | false =>
      rw [hb] at HM3 HBB d0
      go_wp2_with fail
      (try go_ret)
      exact ⟨by rw [lenT, hobj hb]; rfl, HBB.out⟩
    | true =>
      have d1 := HM3.out.cw (hn2 hb)
      rw [e2 hb] at d1
      rw [hb] at HM3 HBB d0 d1
      have hn3 : ((n : Int) + 1) < (m : Int) := by have := hn2 hb; omega
      go_wp2_with fail
      (try go_ret)
      exact ⟨rfl, HBB.out⟩
end Go.Proofs.Ytibhjlmffgabgaa.PAll
