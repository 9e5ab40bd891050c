/- For all lists of texts and all texts that are together of bulk at most 1048576: a method's descriptor is its parts again, one behind the other; parts that are types make one. Condition: the bulk (the statement ..UptoSaid), for the joined text is longer than what came in. -/
import Derived.Test.YtbbogkhidaekoaaRows
import Derived.Test.YtbbogkhidaekoaaPureDescWhole
import Derived.WalkKit
import Derived.ProofKit
import Derived.OpenShut
import Derived.ShutString
import Derived.ChangeOld
import Derived.Below
import Derived.SliceStrings
import Derived.JoinedCond
namespace Go.Proofs.Ytbbogkhidaekoaa.descWhole
open Go.ChangeShapes Go.WideShapes Go.ChangeAt Go.RowKit
open Go.ChangeMaps (open_string shut_string)
set_option linter.unusedVariables false
theorem own : ownKnob Try.prog.godebug = none := by kernel_rfl
theorem laidOut : laidOutB Try.prog = true := by kernel_rfl

theorem bulk_strs {H : Type} (ss : List ByteArray) : (ss.map (·.data.toList)).flatten.length + ss.length ≤ Rows.uptoBulkAll (strs ss : List (DataW H)) := by
  induction ss with
  | nil => exact Nat.zero_le _
  | cons s t ih =>
    have e : (strs (s :: t) : List (DataW H)) = .lit (.string s.data.toList) :: strs t := rfl
    rw [e, List.map_cons, List.flatten_cons, List.length_append, List.length_cons]
    unfold Rows.uptoBulkAll
    have : Rows.uptoBulk (DataW.lit (.string s.data.toList) : DataW H) = s.data.toList.length + 1 := by unfold Rows.uptoBulk; rfl
    rw [this]; omega

set_option maxRecDepth 100000 in
theorem lifted (os : Os) (started : os.Started) (H : Type) (enc : TypeId × Value → H) (F : Stop.Interp) :
    ReturnsInHanded {} Try.checked os 5 .any ((Rows.OpenSpec.upto Rows.descWholeSpec).pre6 enc Try.prog Try.f5 Rows.descWholeUptoRow.domain false) (((Rows.OpenSpec.upto Rows.descWholeSpec).at F).post enc Try.prog Try.f5 false true false false) := by
  refine returnsInHanded_of_cond (C := Try.checked) (k := Rows.uptoSmall) rfl own started (by kernel_rfl) Try.func5
    (OpenSpec.witness (enc := enc) (C := Try.checked) (k := Rows.uptoSmall) (x := ([.nil, .lit (.string [])], [], [])) rfl false ⟨#[], #[.slice none 0 0, .string ByteArray.empty], []⟩ 8 (by kernel_rfl) (by kernel_rfl) (by kernel_rfl) (by kernel_rfl) (by kernel_rfl) (by kernel_rfl)) ?_
  intro W base args ds gs before hval0 hW hcnd hsmall _
  have hval : ∀ (j : Nat) t v, Try.f5.params[j]? = some t → args[j]? = some v → Value.okWide Try.prog W .any base t v := hval0
  have hW' := hW
  obtain ⟨p, q, hA0, hV, rfl, hfz, hnd⟩ := hW
  have hA : DataW.TrodAll enc Try.prog W 0 (fun _ => true) true Try.f5.params.toList args.toList ds p := hA0
  rw [Try.params5] at hA hval
  obtain ⟨v0, vs0, d0, ds0, p0, q0, hargs, rfl, rfl, h0, r0⟩ := trodAll_cons hA
  obtain ⟨v1, vs1, d1, ds1, p1, q1, rfl, rfl, rfl, h1, r1⟩ := trodAll_cons r0
  obtain ⟨rfl, rfl, rfl⟩ := trodAll_nil r1
  obtain rfl : args = #[v0, v1] := by cases args; simp_all
  obtain ⟨rfl, rfl⟩ := trodVars_none hV
  obtain ⟨a0, len0, cap0, rfl⟩ := okWide_slice Try.underlying28 (hval 0 28 v0 rfl rfl)
  obtain ⟨a1, rfl, rfl, rfl, y0⟩ := open_string Try.underlying9 (hval 1 9 v1 rfl rfl) h1
  have k0 := h0
  have lt0 : ∀ x ∈ p0, x.block < W.heap.size := by obtain ⟨m, hm⟩ := k0; exact DataW.trod_lt m _ _ _ hm
  obtain ⟨l0, hl0, hc0, hr0, hbulk⟩ : ∃ l0 : List ByteArray, l0.length = len0 ∧ len0 ≤ cap0 ∧ Go.Proofs.YtbbogkhidaekoaaW.PrintWords.Kd.C Go.Proofs.YtbbogkhidaekoaaW.PrintWords.Kd.string W a0 len0 l0 ∧ (l0.map (·.data.toList)).flatten.length + l0.length ≤ Rows.uptoBulk d0 := by
    obtain ⟨fuel, hf⟩ := h0
    rcases open_strings Try.underlying28 Try.underlying9 (by kernel_rfl) hf with ⟨hcs, hx⟩ | ⟨x, l, c, ss, hcs, _, hl, hm, hz, hx, hcell, hsz⟩
    · simp [Value.cells] at hcs
      obtain ⟨rfl, rfl, rfl⟩ := hcs
      exact ⟨[], rfl, Nat.le_refl _, ⟨rfl, by omega, fun h => absurd h (by omega)⟩, Nat.zero_le _⟩
    · simp [Value.cells] at hcs
      obtain ⟨rfl, rfl, rfl⟩ := hcs
      have hz' : ss.length = cap0 := by simpa using hz
      unfold maxLen at hm
      obtain ⟨hd, _⟩ := Prod.mk.inj hx
      have hlen : (ss.take len0).length = len0 := by rw [List.length_take]; omega
      refine ⟨ss.take len0, hlen, hl, ⟨hlen, by omega, fun _ => ⟨x, rfl, fun j p hj => ?_⟩⟩, ?_⟩
      · have hjl : j < len0 := by have := (List.getElem?_eq_some_iff.1 hj).1; omega
        have hjs : ss[j]? = some p := by rw [List.getElem?_take, if_pos hjl] at hj; exact hj
        have hc := hcell j (by omega)
        rw [List.getD_eq_getElem?_getD, hjs] at hc
        refine ⟨[.string p], rfl, rfl, fun i u hu => ?_⟩
        match i, hu with
        | 0, hu =>
          obtain rfl := Option.some.inj hu
          simpa [Go.Proofs.YtbbogkhidaekoaaW.PrintWords.Kd.string, Go.Proofs.YtbbogkhidaekoaaW.PrintWords.Kd.scalar] using hc
        | i + 1, hu => simp at hu
      · rw [hd]
        have := bulk_strs (H := H) (ss.take len0)
        unfold Rows.uptoBulk
        omega
  subst hl0
  have hsm : Rows.uptoBulk d0 + (a1.size + 1) ≤ 1048576 := by
    have hs : decide (Rows.uptoBulkAll ([d0, .lit (.string a1.data.toList)] ++ []) ≤ 1048576) = true := hsmall
    have hs2 := of_decide_eq_true hs
    simp only [List.append_nil] at hs2
    unfold Rows.uptoBulkAll Rows.uptoBulkAll Rows.uptoBulkAll at hs2
    have e1 : Rows.uptoBulk (DataW.lit (.string a1.data.toList) : DataW H) = a1.data.toList.length + 1 := by unfold Rows.uptoBulk; rfl
    rw [e1, Array.length_toList] at hs2
    have e2 : a1.data.size = a1.size := rfl
    omega
  have hwhole : PAll.regletlaw02_DescWhole.f 600000000 l0 a1 = some true := by
    obtain ⟨r, rfl⟩ := PAll.ba_ex a1
    have e : l0 = (l0.map (·.data.toList)).map PAll.ba := by
      rw [List.map_map]
      have : (PAll.ba ∘ fun s : ByteArray => s.data.toList) = id := by
        funext s; cases s; rfl
      rw [this, List.map_id]
    rw [PAll.ba_size] at hsm
    rw [e]
    exact PAll.whole _ r (by rw [List.length_map]; omega) (by omega)
  clear hA0 hval0
  refine (PAll.regletlaw02_DescWhole.calls 600000000 a0 cap0 l0 a1 true W hr0 hc0 hwhole).mono fun e W' ⟨he, bel⟩ => ?_
  subst he
  exact ⟨_, rfl, _, _, _, [], _, [], hW', trodAll_mk1 (shut_bool Try.underlying4 _), (trodAll_cons_mk (Below.trod laidOut (by kernel_rfl) (of_decide_eq_true (by kernel_rfl)) k0 bel lt0) (trodAll_cons_mk (shut_string Try.underlying9 y0) trodAll_mk0)), rfl, bel.frame _, fun h => by cases h⟩
theorem over : Rows.descWholeUptoRow.holds Try.pinned (Rows.OpenSpec.upto Rows.descWholeSpec) :=
  OpenClaim.holds_of_cond 5 Try.f5 rfl rfl rfl rfl rfl rfl rfl ⟨rfl, rfl, rfl, rfl, rfl⟩ rfl rfl rfl rfl rfl (by kernel_rfl) Try.func5 (by kernel_rfl)
    (of_decide_eq_true (by kernel_rfl)) (by unfold Func.isWrapper; first | (rw [if_pos (by decide +kernel)]; kernel_rfl) | (rw [if_neg (by decide +kernel)]; exact ⟨rfl, rfl⟩))
    (fun os started H enc _ F => by rw [OpenClaim.pre_of_none' rfl]; exact lifted os started H enc F)
theorem proved : Rows.DescWholeUptoSaid := over
#print axioms proved
end Go.Proofs.Ytbbogkhidaekoaa.descWhole
namespace Go.Proofs.Ytbbogkhidaekoaa
/-- The row, under a short name, for the claim. -/
theorem descWhole_holds : Rows.DescWholeUptoSaid := descWhole.proved
end Go.Proofs.Ytbbogkhidaekoaa
