import Derived.Test.YtedmhopginmjaaaZReader
import Derived.Test.YtedmhopginmjaaaZG1
namespace Go.Proofs.Ytedmhopginmjaaa.PAll
open Go.RowKit Go.Proofs.YtedmhopginmjaaaW.PrintWords Go.Proofs.YtedmhopginmjaaaW.PrintLast Go.Proofs.YtedmhopginmjaaaW.PrintMore
open Go.Proofs.Ytedmhopginmjaaa.MapInt
set_option linter.unusedVariables false
set_option linter.unusedSimpArgs false
structure SR where
  kind : Int
  num : Int
  text : ByteArray
  a0 : Int
  a1 : Int
  a2 : Int
def rawC (x : SR) : Array Value := #[.int .i64 x.kind, .int .u64 x.num, .string x.text, .int .i64 x.a0, .int .i64 x.a1, .int .i64 x.a2]
theorem rawC_one (x : SR) : (rawC x).all (·.oneCell') = true := by simp [rawC, Value.oneCell']
theorem wrap64_in (x : Int) (h : -9223372036854775808 ≤ x ∧ x ≤ 9223372036854775807) : wrap64 x = x := by unfold wrap64; omega
def rawZ (k : Int) : SR := ⟨k, 0, ⟨#[]⟩, 0, 0, 0⟩
def oneF (l : List Int) (bad : Bool) : SR × Bool × List Int × Bool :=
  let k := numF l bad 1
  if k.1 = 1 then
    let n := numF k.2.1 k.2.2 2
    let s := takeF n.2.1 n.2.2 n.1
    (⟨1, 0, s.1, 0, 0, 0⟩, true, s.2.1, s.2.2)
  else if k.1 = 3 then
    let n := numF k.2.1 k.2.2 4
    (⟨3, n.1, ⟨#[]⟩, 0, 0, 0⟩, true, n.2.1, n.2.2)
  else if k.1 = 5 then
    let n := numF k.2.1 k.2.2 8
    (⟨5, n.1, ⟨#[]⟩, 0, 0, 0⟩, true, n.2.1, n.2.2)
  else if k.1 = 7 ∨ k.1 = 8 then
    let n := numF k.2.1 k.2.2 2
    (⟨k.1, 0, ⟨#[]⟩, n.1, 0, 0⟩, true, n.2.1, n.2.2)
  else if k.1 = 9 ∨ k.1 = 10 ∨ k.1 = 11 then
    let n := numF k.2.1 k.2.2 2
    let m := numF n.2.1 n.2.2 2
    let o := numF m.2.1 m.2.2 2
    (⟨k.1, 0, ⟨#[]⟩, n.1, m.1, o.1⟩, true, o.2.1, o.2.2)
  else (rawZ k.1, false, k.2.1, k.2.2)
theorem u8_drop {l : List Int} (h : ∀ x ∈ l, 0 ≤ x ∧ x < 256) (n : Nat) : ∀ x ∈ l.drop n, 0 ≤ x ∧ x < 256 := fun x hx => h x (List.mem_of_mem_drop hx)
theorem numF_bound {l : List Int} (bad : Bool) (n : Nat) (h : ∀ x ∈ l, 0 ≤ x ∧ x < 256) : 0 ≤ (numF l bad n).1 ∧ (numF l bad n).1 < 256 ^ n := by
  unfold numF
  have hp : (0 : Int) < 256 ^ n := Int.pow_pos (by decide)
  split
  · exact ⟨Int.le_refl _, hp⟩
  · split
    · exact ⟨Int.le_refl _, hp⟩
    · have := numV_bound _ (l.take n) (Nat.le_refl _) (fun x hx => h x (List.mem_of_mem_take hx))
      rw [Int.toNat_natCast]
      rw [List.length_take, Nat.min_eq_left (by omega)] at this
      exact this
theorem info62 : (Try.prog.info? 62).map (·.size) = some 6 := by kernel_rfl
structure OS (W0 w wx : World) (g : Nat) (l : List Int) (bad : Bool) (b2 b4 : Nat) (c2 c4 : Array Value) : Prop where
  rs : RS W0 wx g l bad
  gr : w.grownBy wx (some g)
  k2 : Blk wx b2 62 c2
  k4 : Blk wx b4 62 c4
  n2 : w.heap.size ≤ b2
  n4 : w.heap.size ≤ b4
  ne : b2 ≠ b4
  gl : g < w.heap.size
section
variable {W0 w wx w2 : World} {g b2 b4 : Nat} {l l2 : List Int} {bad bad2 : Bool} {c2 c4 c5 : Array Value}
theorem OS.called (h : OS W0 w wx g l bad b2 b4 c2 c4) (hr : RS W0 w2 g l2 bad2) (hg : wx.grownBy w2 (some g)) : OS W0 w w2 g l2 bad2 b2 b4 c2 c4 :=
  ⟨hr, h.gr.trans hg, h.k2.kept hg (fun e => by injection e with e; have := h.n2; have := h.gl; omega), h.k4.kept hg (fun e => by injection e with e; have := h.n4; have := h.gl; omega), h.n2, h.n4, h.ne, h.gl⟩
theorem gr_new {w wx w2 : World} {g b : Nat} (h : w.grownBy wx (some g)) (hg : wx.grownBy w2 (some b)) (hb : w.heap.size ≤ b) : w.grownBy w2 (some g) :=
  ⟨hg.os.trans h.os, hg.tape.trans h.tape, hg.output.trans h.output, Nat.le_trans h.size hg.size, fun k hk hne => by
    rw [hg.block k (Nat.lt_of_lt_of_le hk h.size) (fun e => by injection e with e; omega)]
    exact h.block k hk hne⟩
theorem OS.put4 (h : OS W0 w wx g l bad b2 b4 c2 c4) (hb : Blk w2 b4 62 c5) (hg : wx.grownBy w2 (some b4)) : OS W0 w w2 g l bad b2 b4 c2 c5 :=
  ⟨h.rs.kept hg (fun e => by injection e with e; have := h.n4; have := h.gl; omega) (fun k hk => by cases hk; exact Nat.le_trans (Nat.le_trans h.rs.lg (Nat.le_of_lt h.gl)) h.n4), gr_new h.gr hg h.n4, h.k2.kept hg (fun e => h.ne (by injection e)), hb, h.n2, h.n4, h.ne, h.gl⟩
theorem OS.put2 (h : OS W0 w wx g l bad b2 b4 c2 c4) (hb : Blk w2 b2 62 c5) (hg : wx.grownBy w2 (some b2)) : OS W0 w w2 g l bad b2 b4 c5 c4 :=
  ⟨h.rs.kept hg (fun e => by injection e with e; have := h.n2; have := h.gl; omega) (fun k hk => by cases hk; exact Nat.le_trans (Nat.le_trans h.rs.lg (Nat.le_of_lt h.gl)) h.n2), gr_new h.gr hg h.n2, hb, h.k4.kept hg (fun e => h.ne (by injection e with e; exact e.symm)), h.n2, h.n4, h.ne, h.gl⟩
end
theorem num_at {W0 w : World} {g : Nat} {l : List Int} {bad : Bool} (n : Int) {v : Int} {l2 : List Int} {b2 : Bool} (h : RS W0 w g l bad) (hv : numF l bad n = (v, l2, b2)) :
    Calls Try.prog 10 #[.pointer (some ⟨g, 0, none⟩), .int .i64 n] w fun e w' => e = .returned (.int .u64 v) ∧ RS W0 w' g l2 b2 ∧ w.grownBy w' (some g) := by
  have h1 := num_calls W0 w g l bad n h
  rw [hv] at h1; exact h1
theorem take_at {W0 w : World} {g : Nat} {l : List Int} {bad : Bool} (n : Int) {v : ByteArray} {l2 : List Int} {b2 : Bool} (h : RS W0 w g l bad) (hv : takeF l bad n = (v, l2, b2)) :
    Calls Try.prog 12 #[.pointer (some ⟨g, 0, none⟩), .int .i64 n] w fun e w' => e = .returned (.string v) ∧ RS W0 w' g l2 b2 ∧ w.grownBy w' (some g) := by
  have h1 := take_calls W0 w g l bad n h
  rw [hv] at h1; exact h1
theorem numF_in {l l2 : List Int} {bad b2 : Bool} {v : Int} (n : Nat) (h : ∀ x ∈ l, 0 ≤ x ∧ x < 256) (hv : numF l bad n = (v, l2, b2)) : 0 ≤ v ∧ v < 256 ^ n := by
  have := numF_bound bad n h
  rw [hv] at this; exact this
theorem oiInt : (Try.prog.info? 3).map (·.size) = some 1 := by kernel_rfl
theorem oiU64 : (Try.prog.info? 30).map (·.size) = some 1 := by kernel_rfl
theorem oiStr : (Try.prog.info? 9).map (·.size) = some 1 := by kernel_rfl
theorem gr_below {w w2 : World} {row : Option Nat} (h : Below w.heap.size w w2) : w.grownBy w2 row := ⟨h.os, h.tape, h.output, h.size, fun k hk _ => h.block k hk⟩
set_option maxHeartbeats 8000000 in
set_option maxRecDepth 100000 in
theorem one_c1 {W0 w : World} {g : Nat} {l : List Int} {bad : Bool} {L1 L2 L3 : List Int} {B1 B2 B3 : Bool} {N : Int} {S : ByteArray} (h : RS W0 w g l bad) (h1 : numF l bad 1 = (1, L1, B1)) (hu8 : ∀ x ∈ L1, 0 ≤ x ∧ x < 256) (h2 : numF L1 B1 2 = (N, L2, B2)) (h3 : takeF L2 B2 N = (S, L3, B3)) :
    Calls Try.prog 22 #[.pointer (some ⟨g, 0, none⟩)] w fun e w' => e = .returned (.tuple #[.agg (rawC (⟨1, 0, S, 0, 0, 0⟩)), .bool true]) ∧ RS W0 w' g L3 B3 ∧ w.grownBy w' (some g) := by
  have hgl : g < w.heap.size := by obtain ⟨A, c, hB, _, _⟩ := h.box; exact hB.lt
  have h1 := Aside0.mk h1
  have hu8 := Aside0.mk hu8
  have h2 := Aside0.mk h2
  have h3 := Aside0.mk h3
  have hN := numF_in 2 hu8.out h2.out
  have wrN : IntKind.i64.wrap N = N := IntWalk.i64_in _ (by have := hN; omega)
  have wxN : wrap64 N = N := wrap64_in _ (by have := hN; omega)
  go_enter Try.func22, Try.ntmps22
  go_wp2_with (first | ((with_reducible refine gate_dst (N := 2) rfl ?_); refine box_event ?hg (N := 2) ?hd (cs := #[.int .i64 0, .int .u64 0, .string ⟨#[]⟩, .int .i64 0, .int .i64 0, .int .i64 0]) (t := 62) ?hr ?_; (case hd => rfl); (case hg => rfl); (case hr => first | (go_simp; done) | (go_simp; rfl)); intro b2 hb2 wa hk2 hbl; have HK2 := Aside0.mk (show Blk wa b2 62 (rawC (rawZ 0)) from hk2); have HR := Aside0.mk (h.below hbl); have HG : Aside0 (w.grownBy wa (some g)) := ⟨gr_below hbl⟩; have HN2 : Aside0 (w.heap.size ≤ b2) := ⟨by omega⟩; clear hb2 hk2 hbl) | (go_at_call 10; (with_reducible refine (num_at 1 HR.out h1.out).mono ?_); rintro e wb ⟨rfl, hr, hg⟩; have HR2 := Aside0.mk hr; have HK3 := Aside0.mk (HK2.out.kept hg (fun e => by injection e with e; have := HN2.out; omega)); have HG2 := Aside0.mk (HG.out.trans hg); clear HR HK2 HG hr hg) | ((with_reducible refine gate_dst (N := 4) rfl ?_); refine box_event ?hg (N := 4) ?hd (cs := #[.int .i64 0, .int .u64 0, .string ⟨#[]⟩, .int .i64 0, .int .i64 0, .int .i64 0]) (t := 62) ?hr ?_; (case hd => rfl); (case hg => rfl); (case hr => first | (go_simp; done) | (go_simp; rfl)); intro b4 hb4 wc hk4 hbl; have HS : Aside0 (OS W0 w wc g L1 B1 b2 b4 (rawC (rawZ 0)) (rawC (rawZ 0))) := ⟨⟨HR2.out.below hbl, HG2.out.trans (gr_below hbl), HK3.out.below hbl, hk4, HN2.out, Nat.le_trans HG2.out.size (by omega), (fun e => by have := HK3.out.lt; omega), hgl⟩⟩; clear HR2 HG2 HK3 hb4 hk4 hbl) | (refine blk_store rfl 62 (.tmp 4) (.tmp 9) rfl (cs' := rawC (rawZ 1)) info62 rfl rfl (rawC_one _) HS.out.k4 rfl ?_; intro wd hb4 hg4 hz4; have n_ := Aside0.mk (HS.out.put4 hb4 hg4); clear HS; have HS := n_; clear n_; clear hb4 hg4 hz4) | (refine cell_load rfl 3 (.tmp 10) rfl Try.underlying3 rfl rfl (HS.out.k4.cell (o := 0) (v := .int .i64 1) rfl) ?_) | (go_at_call 10; (with_reducible refine (num_at 2 HS.out.rs h2.out).mono ?_); rintro e we ⟨rfl, hr, hg⟩; have n_ := Aside0.mk (HS.out.called hr hg); clear HS; have HS := n_; clear n_; clear hr hg) | (go_at_call 12; (with_reducible refine (take_at N HS.out.rs h3.out).mono ?_); rintro e we ⟨rfl, hr, hg⟩; have n_ := Aside0.mk (HS.out.called hr hg); clear HS; have HS := n_; clear n_; clear hr hg) | (refine cell_store rfl 9 (.tmp 20) (.tmp 19) rfl oiStr (q := 2) (by first | rfl | (simp [Act.eval, Act.put, Addr.add]; done)) rfl rfl HS.out.k4 (by simp [rawC]) ?_; intro wf hb5 hg5 hz5; have n_ := Aside0.mk (HS.out.put4 (c5 := rawC (⟨1, 0, S, 0, 0, 0⟩)) hb5 hg5); clear HS; have HS := n_; clear n_; clear hb5 hg5 hz5) | ((with_reducible refine gate_dst (N := 53) rfl ?_); refine blk_load (cs := rawC (⟨1, 0, S, 0, 0, 0⟩)) rfl 62 (.tmp 4) rfl Try.underlying62 rfl info62 rfl HS.out.k4 ?_) | (refine blk_store rfl 62 (.tmp 2) (.tmp 53) rfl (cs' := rawC (⟨1, 0, S, 0, 0, 0⟩)) info62 rfl rfl (rawC_one _) HS.out.k2 rfl ?_; intro wg hb6 hg6 hz6; have n_ := Aside0.mk (HS.out.put2 hb6 hg6); clear HS; have HS := n_; clear n_; clear hb6 hg6 hz6))
  refine bodyPost_ret (results_ct rfl _ _ b2 62 (rawC (⟨1, 0, S, 0, 0, 0⟩)) (0, 0) _ rfl HS.out.k2 Try.underlying62 rfl info62) rfl ?_
  exact ⟨by first | rfl | (simp; rfl), HS.out.rs, HS.out.gr⟩
set_option maxHeartbeats 8000000 in
set_option maxRecDepth 100000 in
theorem one_c3 {W0 w : World} {g : Nat} {l : List Int} {bad : Bool} {L1 L2 : List Int} {B1 B2 : Bool} {N : Int} (h : RS W0 w g l bad) (h1 : numF l bad 1 = (3, L1, B1)) (hu8 : ∀ x ∈ L1, 0 ≤ x ∧ x < 256) (h2 : numF L1 B1 4 = (N, L2, B2)) :
    Calls Try.prog 22 #[.pointer (some ⟨g, 0, none⟩)] w fun e w' => e = .returned (.tuple #[.agg (rawC (⟨3, N, ⟨#[]⟩, 0, 0, 0⟩)), .bool true]) ∧ RS W0 w' g L2 B2 ∧ w.grownBy w' (some g) := by
  have hgl : g < w.heap.size := by obtain ⟨A, c, hB, _, _⟩ := h.box; exact hB.lt
  have h1 := Aside0.mk h1
  have hu8 := Aside0.mk hu8
  have h2 := Aside0.mk h2
  have hN := numF_in 4 hu8.out h2.out
  go_enter Try.func22, Try.ntmps22
  go_wp2_with (first | ((with_reducible refine gate_dst (N := 2) rfl ?_); refine box_event ?hg (N := 2) ?hd (cs := #[.int .i64 0, .int .u64 0, .string ⟨#[]⟩, .int .i64 0, .int .i64 0, .int .i64 0]) (t := 62) ?hr ?_; (case hd => rfl); (case hg => rfl); (case hr => first | (go_simp; done) | (go_simp; rfl)); intro b2 hb2 wa hk2 hbl; have HK2 := Aside0.mk (show Blk wa b2 62 (rawC (rawZ 0)) from hk2); have HR := Aside0.mk (h.below hbl); have HG : Aside0 (w.grownBy wa (some g)) := ⟨gr_below hbl⟩; have HN2 : Aside0 (w.heap.size ≤ b2) := ⟨by omega⟩; clear hb2 hk2 hbl) | (go_at_call 10; (with_reducible refine (num_at 1 HR.out h1.out).mono ?_); rintro e wb ⟨rfl, hr, hg⟩; have HR2 := Aside0.mk hr; have HK3 := Aside0.mk (HK2.out.kept hg (fun e => by injection e with e; have := HN2.out; omega)); have HG2 := Aside0.mk (HG.out.trans hg); clear HR HK2 HG hr hg) | ((with_reducible refine gate_dst (N := 4) rfl ?_); refine box_event ?hg (N := 4) ?hd (cs := #[.int .i64 0, .int .u64 0, .string ⟨#[]⟩, .int .i64 0, .int .i64 0, .int .i64 0]) (t := 62) ?hr ?_; (case hd => rfl); (case hg => rfl); (case hr => first | (go_simp; done) | (go_simp; rfl)); intro b4 hb4 wc hk4 hbl; have HS : Aside0 (OS W0 w wc g L1 B1 b2 b4 (rawC (rawZ 0)) (rawC (rawZ 0))) := ⟨⟨HR2.out.below hbl, HG2.out.trans (gr_below hbl), HK3.out.below hbl, hk4, HN2.out, Nat.le_trans HG2.out.size (by omega), (fun e => by have := HK3.out.lt; omega), hgl⟩⟩; clear HR2 HG2 HK3 hb4 hk4 hbl) | (refine blk_store rfl 62 (.tmp 4) (.tmp 9) rfl (cs' := rawC (rawZ 3)) info62 rfl rfl (rawC_one _) HS.out.k4 rfl ?_; intro wd hb4 hg4 hz4; have n_ := Aside0.mk (HS.out.put4 hb4 hg4); clear HS; have HS := n_; clear n_; clear hb4 hg4 hz4) | (refine cell_load rfl 3 (.tmp 10) rfl Try.underlying3 rfl rfl (HS.out.k4.cell (o := 0) (v := .int .i64 3) rfl) ?_) | (go_at_call 10; (with_reducible refine (num_at 4 HS.out.rs h2.out).mono ?_); rintro e we ⟨rfl, hr, hg⟩; have n_ := Aside0.mk (HS.out.called hr hg); clear HS; have HS := n_; clear n_; clear hr hg) | (refine cell_store rfl 30 (.tmp 25) (.tmp 24) rfl oiU64 (q := 1) (by first | rfl | (simp [Act.eval, Act.put, Addr.add]; done)) rfl rfl HS.out.k4 (by simp [rawC]) ?_; intro wf hb5 hg5 hz5; have n_ := Aside0.mk (HS.out.put4 (c5 := rawC (⟨3, N, ⟨#[]⟩, 0, 0, 0⟩)) hb5 hg5); clear HS; have HS := n_; clear n_; clear hb5 hg5 hz5) | ((with_reducible refine gate_dst (N := 53) rfl ?_); refine blk_load (cs := rawC (⟨3, N, ⟨#[]⟩, 0, 0, 0⟩)) rfl 62 (.tmp 4) rfl Try.underlying62 rfl info62 rfl HS.out.k4 ?_) | (refine blk_store rfl 62 (.tmp 2) (.tmp 53) rfl (cs' := rawC (⟨3, N, ⟨#[]⟩, 0, 0, 0⟩)) info62 rfl rfl (rawC_one _) HS.out.k2 rfl ?_; intro wg hb6 hg6 hz6; have n_ := Aside0.mk (HS.out.put2 hb6 hg6); clear HS; have HS := n_; clear n_; clear hb6 hg6 hz6))
  refine bodyPost_ret (results_ct rfl _ _ b2 62 (rawC (⟨3, N, ⟨#[]⟩, 0, 0, 0⟩)) (0, 0) _ rfl HS.out.k2 Try.underlying62 rfl info62) rfl ?_
  exact ⟨by first | rfl | (simp; rfl), HS.out.rs, HS.out.gr⟩
set_option maxHeartbeats 8000000 in
set_option maxRecDepth 100000 in
theorem one_c5 {W0 w : World} {g : Nat} {l : List Int} {bad : Bool} {L1 L2 : List Int} {B1 B2 : Bool} {N : Int} (h : RS W0 w g l bad) (h1 : numF l bad 1 = (5, L1, B1)) (hu8 : ∀ x ∈ L1, 0 ≤ x ∧ x < 256) (h2 : numF L1 B1 8 = (N, L2, B2)) :
    Calls Try.prog 22 #[.pointer (some ⟨g, 0, none⟩)] w fun e w' => e = .returned (.tuple #[.agg (rawC (⟨5, N, ⟨#[]⟩, 0, 0, 0⟩)), .bool true]) ∧ RS W0 w' g L2 B2 ∧ w.grownBy w' (some g) := by
  have hgl : g < w.heap.size := by obtain ⟨A, c, hB, _, _⟩ := h.box; exact hB.lt
  have h1 := Aside0.mk h1
  have hu8 := Aside0.mk hu8
  have h2 := Aside0.mk h2
  have hN := numF_in 8 hu8.out h2.out
  go_enter Try.func22, Try.ntmps22
  go_wp2_with (first | ((with_reducible refine gate_dst (N := 2) rfl ?_); refine box_event ?hg (N := 2) ?hd (cs := #[.int .i64 0, .int .u64 0, .string ⟨#[]⟩, .int .i64 0, .int .i64 0, .int .i64 0]) (t := 62) ?hr ?_; (case hd => rfl); (case hg => rfl); (case hr => first | (go_simp; done) | (go_simp; rfl)); intro b2 hb2 wa hk2 hbl; have HK2 := Aside0.mk (show Blk wa b2 62 (rawC (rawZ 0)) from hk2); have HR := Aside0.mk (h.below hbl); have HG : Aside0 (w.grownBy wa (some g)) := ⟨gr_below hbl⟩; have HN2 : Aside0 (w.heap.size ≤ b2) := ⟨by omega⟩; clear hb2 hk2 hbl) | (go_at_call 10; (with_reducible refine (num_at 1 HR.out h1.out).mono ?_); rintro e wb ⟨rfl, hr, hg⟩; have HR2 := Aside0.mk hr; have HK3 := Aside0.mk (HK2.out.kept hg (fun e => by injection e with e; have := HN2.out; omega)); have HG2 := Aside0.mk (HG.out.trans hg); clear HR HK2 HG hr hg) | ((with_reducible refine gate_dst (N := 4) rfl ?_); refine box_event ?hg (N := 4) ?hd (cs := #[.int .i64 0, .int .u64 0, .string ⟨#[]⟩, .int .i64 0, .int .i64 0, .int .i64 0]) (t := 62) ?hr ?_; (case hd => rfl); (case hg => rfl); (case hr => first | (go_simp; done) | (go_simp; rfl)); intro b4 hb4 wc hk4 hbl; have HS : Aside0 (OS W0 w wc g L1 B1 b2 b4 (rawC (rawZ 0)) (rawC (rawZ 0))) := ⟨⟨HR2.out.below hbl, HG2.out.trans (gr_below hbl), HK3.out.below hbl, hk4, HN2.out, Nat.le_trans HG2.out.size (by omega), (fun e => by have := HK3.out.lt; omega), hgl⟩⟩; clear HR2 HG2 HK3 hb4 hk4 hbl) | (refine blk_store rfl 62 (.tmp 4) (.tmp 9) rfl (cs' := rawC (rawZ 5)) info62 rfl rfl (rawC_one _) HS.out.k4 rfl ?_; intro wd hb4 hg4 hz4; have n_ := Aside0.mk (HS.out.put4 hb4 hg4); clear HS; have HS := n_; clear n_; clear hb4 hg4 hz4) | (refine cell_load rfl 3 (.tmp 10) rfl Try.underlying3 rfl rfl (HS.out.k4.cell (o := 0) (v := .int .i64 5) rfl) ?_) | (go_at_call 10; (with_reducible refine (num_at 8 HS.out.rs h2.out).mono ?_); rintro e we ⟨rfl, hr, hg⟩; have n_ := Aside0.mk (HS.out.called hr hg); clear HS; have HS := n_; clear n_; clear hr hg) | (refine cell_store rfl 30 (.tmp 30) (.tmp 29) rfl oiU64 (q := 1) (by first | rfl | (simp [Act.eval, Act.put, Addr.add]; done)) rfl rfl HS.out.k4 (by simp [rawC]) ?_; intro wf hb5 hg5 hz5; have n_ := Aside0.mk (HS.out.put4 (c5 := rawC (⟨5, N, ⟨#[]⟩, 0, 0, 0⟩)) hb5 hg5); clear HS; have HS := n_; clear n_; clear hb5 hg5 hz5) | ((with_reducible refine gate_dst (N := 53) rfl ?_); refine blk_load (cs := rawC (⟨5, N, ⟨#[]⟩, 0, 0, 0⟩)) rfl 62 (.tmp 4) rfl Try.underlying62 rfl info62 rfl HS.out.k4 ?_) | (refine blk_store rfl 62 (.tmp 2) (.tmp 53) rfl (cs' := rawC (⟨5, N, ⟨#[]⟩, 0, 0, 0⟩)) info62 rfl rfl (rawC_one _) HS.out.k2 rfl ?_; intro wg hb6 hg6 hz6; have n_ := Aside0.mk (HS.out.put2 hb6 hg6); clear HS; have HS := n_; clear n_; clear hb6 hg6 hz6))
  refine bodyPost_ret (results_ct rfl _ _ b2 62 (rawC (⟨5, N, ⟨#[]⟩, 0, 0, 0⟩)) (0, 0) _ rfl HS.out.k2 Try.underlying62 rfl info62) rfl ?_
  exact ⟨by first | rfl | (simp; rfl), HS.out.rs, HS.out.gr⟩
set_option maxHeartbeats 8000000 in
set_option maxRecDepth 100000 in
theorem one_c7 {W0 w : World} {g : Nat} {l : List Int} {bad : Bool} {L1 L2 : List Int} {B1 B2 : Bool} {N : Int} (h : RS W0 w g l bad) (h1 : numF l bad 1 = (7, L1, B1)) (hu8 : ∀ x ∈ L1, 0 ≤ x ∧ x < 256) (h2 : numF L1 B1 2 = (N, L2, B2)) :
    Calls Try.prog 22 #[.pointer (some ⟨g, 0, none⟩)] w fun e w' => e = .returned (.tuple #[.agg (rawC (⟨7, 0, ⟨#[]⟩, N, 0, 0⟩)), .bool true]) ∧ RS W0 w' g L2 B2 ∧ w.grownBy w' (some g) := by
  have hgl : g < w.heap.size := by obtain ⟨A, c, hB, _, _⟩ := h.box; exact hB.lt
  have h1 := Aside0.mk h1
  have hu8 := Aside0.mk hu8
  have h2 := Aside0.mk h2
  have hN := numF_in 2 hu8.out h2.out
  have wrN : IntKind.i64.wrap N = N := IntWalk.i64_in _ (by have := hN; omega)
  have wxN : wrap64 N = N := wrap64_in _ (by have := hN; omega)
  go_enter Try.func22, Try.ntmps22
  go_wp2_with (first | ((with_reducible refine gate_dst (N := 2) rfl ?_); refine box_event ?hg (N := 2) ?hd (cs := #[.int .i64 0, .int .u64 0, .string ⟨#[]⟩, .int .i64 0, .int .i64 0, .int .i64 0]) (t := 62) ?hr ?_; (case hd => rfl); (case hg => rfl); (case hr => first | (go_simp; done) | (go_simp; rfl)); intro b2 hb2 wa hk2 hbl; have HK2 := Aside0.mk (show Blk wa b2 62 (rawC (rawZ 0)) from hk2); have HR := Aside0.mk (h.below hbl); have HG : Aside0 (w.grownBy wa (some g)) := ⟨gr_below hbl⟩; have HN2 : Aside0 (w.heap.size ≤ b2) := ⟨by omega⟩; clear hb2 hk2 hbl) | (go_at_call 10; (with_reducible refine (num_at 1 HR.out h1.out).mono ?_); rintro e wb ⟨rfl, hr, hg⟩; have HR2 := Aside0.mk hr; have HK3 := Aside0.mk (HK2.out.kept hg (fun e => by injection e with e; have := HN2.out; omega)); have HG2 := Aside0.mk (HG.out.trans hg); clear HR HK2 HG hr hg) | ((with_reducible refine gate_dst (N := 4) rfl ?_); refine box_event ?hg (N := 4) ?hd (cs := #[.int .i64 0, .int .u64 0, .string ⟨#[]⟩, .int .i64 0, .int .i64 0, .int .i64 0]) (t := 62) ?hr ?_; (case hd => rfl); (case hg => rfl); (case hr => first | (go_simp; done) | (go_simp; rfl)); intro b4 hb4 wc hk4 hbl; have HS : Aside0 (OS W0 w wc g L1 B1 b2 b4 (rawC (rawZ 0)) (rawC (rawZ 0))) := ⟨⟨HR2.out.below hbl, HG2.out.trans (gr_below hbl), HK3.out.below hbl, hk4, HN2.out, Nat.le_trans HG2.out.size (by omega), (fun e => by have := HK3.out.lt; omega), hgl⟩⟩; clear HR2 HG2 HK3 hb4 hk4 hbl) | (refine blk_store rfl 62 (.tmp 4) (.tmp 9) rfl (cs' := rawC (rawZ 7)) info62 rfl rfl (rawC_one _) HS.out.k4 rfl ?_; intro wd hb4 hg4 hz4; have n_ := Aside0.mk (HS.out.put4 hb4 hg4); clear HS; have HS := n_; clear n_; clear hb4 hg4 hz4) | (refine cell_load rfl 3 (.tmp 10) rfl Try.underlying3 rfl rfl (HS.out.k4.cell (o := 0) (v := .int .i64 7) rfl) ?_) | (go_at_call 10; (with_reducible refine (num_at 2 HS.out.rs h2.out).mono ?_); rintro e we ⟨rfl, hr, hg⟩; have n_ := Aside0.mk (HS.out.called hr hg); clear HS; have HS := n_; clear n_; clear hr hg) | (refine cell_store rfl 3 (.tmp 38) (.tmp 36) rfl oiInt (q := 3) (by first | rfl | (simp [Act.eval, Act.put, Addr.add]; done)) rfl rfl HS.out.k4 (by simp [rawC]) ?_; intro wf hb5 hg5 hz5; have n_ := Aside0.mk (HS.out.put4 (c5 := rawC (⟨7, 0, ⟨#[]⟩, N, 0, 0⟩)) hb5 hg5); clear HS; have HS := n_; clear n_; clear hb5 hg5 hz5) | ((with_reducible refine gate_dst (N := 53) rfl ?_); refine blk_load (cs := rawC (⟨7, 0, ⟨#[]⟩, N, 0, 0⟩)) rfl 62 (.tmp 4) rfl Try.underlying62 rfl info62 rfl HS.out.k4 ?_) | (refine blk_store rfl 62 (.tmp 2) (.tmp 53) rfl (cs' := rawC (⟨7, 0, ⟨#[]⟩, N, 0, 0⟩)) info62 rfl rfl (rawC_one _) HS.out.k2 rfl ?_; intro wg hb6 hg6 hz6; have n_ := Aside0.mk (HS.out.put2 hb6 hg6); clear HS; have HS := n_; clear n_; clear hb6 hg6 hz6))
  refine bodyPost_ret (results_ct rfl _ _ b2 62 (rawC (⟨7, 0, ⟨#[]⟩, N, 0, 0⟩)) (0, 0) _ rfl HS.out.k2 Try.underlying62 rfl info62) rfl ?_
  exact ⟨by first | rfl | (simp; rfl), HS.out.rs, HS.out.gr⟩
set_option maxHeartbeats 8000000 in
set_option maxRecDepth 100000 in
theorem one_c8 {W0 w : World} {g : Nat} {l : List Int} {bad : Bool} {L1 L2 : List Int} {B1 B2 : Bool} {N : Int} (h : RS W0 w g l bad) (h1 : numF l bad 1 = (8, L1, B1)) (hu8 : ∀ x ∈ L1, 0 ≤ x ∧ x < 256) (h2 : numF L1 B1 2 = (N, L2, B2)) :
    Calls Try.prog 22 #[.pointer (some ⟨g, 0, none⟩)] w fun e w' => e = .returned (.tuple #[.agg (rawC (⟨8, 0, ⟨#[]⟩, N, 0, 0⟩)), .bool true]) ∧ RS W0 w' g L2 B2 ∧ w.grownBy w' (some g) := by
  have hgl : g < w.heap.size := by obtain ⟨A, c, hB, _, _⟩ := h.box; exact hB.lt
  have h1 := Aside0.mk h1
  have hu8 := Aside0.mk hu8
  have h2 := Aside0.mk h2
  have hN := numF_in 2 hu8.out h2.out
  have wrN : IntKind.i64.wrap N = N := IntWalk.i64_in _ (by have := hN; omega)
  have wxN : wrap64 N = N := wrap64_in _ (by have := hN; omega)
  go_enter Try.func22, Try.ntmps22
  go_wp2_with (first | ((with_reducible refine gate_dst (N := 2) rfl ?_); refine box_event ?hg (N := 2) ?hd (cs := #[.int .i64 0, .int .u64 0, .string ⟨#[]⟩, .int .i64 0, .int .i64 0, .int .i64 0]) (t := 62) ?hr ?_; (case hd => rfl); (case hg => rfl); (case hr => first | (go_simp; done) | (go_simp; rfl)); intro b2 hb2 wa hk2 hbl; have HK2 := Aside0.mk (show Blk wa b2 62 (rawC (rawZ 0)) from hk2); have HR := Aside0.mk (h.below hbl); have HG : Aside0 (w.grownBy wa (some g)) := ⟨gr_below hbl⟩; have HN2 : Aside0 (w.heap.size ≤ b2) := ⟨by omega⟩; clear hb2 hk2 hbl) | (go_at_call 10; (with_reducible refine (num_at 1 HR.out h1.out).mono ?_); rintro e wb ⟨rfl, hr, hg⟩; have HR2 := Aside0.mk hr; have HK3 := Aside0.mk (HK2.out.kept hg (fun e => by injection e with e; have := HN2.out; omega)); have HG2 := Aside0.mk (HG.out.trans hg); clear HR HK2 HG hr hg) | ((with_reducible refine gate_dst (N := 4) rfl ?_); refine box_event ?hg (N := 4) ?hd (cs := #[.int .i64 0, .int .u64 0, .string ⟨#[]⟩, .int .i64 0, .int .i64 0, .int .i64 0]) (t := 62) ?hr ?_; (case hd => rfl); (case hg => rfl); (case hr => first | (go_simp; done) | (go_simp; rfl)); intro b4 hb4 wc hk4 hbl; have HS : Aside0 (OS W0 w wc g L1 B1 b2 b4 (rawC (rawZ 0)) (rawC (rawZ 0))) := ⟨⟨HR2.out.below hbl, HG2.out.trans (gr_below hbl), HK3.out.below hbl, hk4, HN2.out, Nat.le_trans HG2.out.size (by omega), (fun e => by have := HK3.out.lt; omega), hgl⟩⟩; clear HR2 HG2 HK3 hb4 hk4 hbl) | (refine blk_store rfl 62 (.tmp 4) (.tmp 9) rfl (cs' := rawC (rawZ 8)) info62 rfl rfl (rawC_one _) HS.out.k4 rfl ?_; intro wd hb4 hg4 hz4; have n_ := Aside0.mk (HS.out.put4 hb4 hg4); clear HS; have HS := n_; clear n_; clear hb4 hg4 hz4) | (refine cell_load rfl 3 (.tmp 10) rfl Try.underlying3 rfl rfl (HS.out.k4.cell (o := 0) (v := .int .i64 8) rfl) ?_) | (go_at_call 10; (with_reducible refine (num_at 2 HS.out.rs h2.out).mono ?_); rintro e we ⟨rfl, hr, hg⟩; have n_ := Aside0.mk (HS.out.called hr hg); clear HS; have HS := n_; clear n_; clear hr hg) | (refine cell_store rfl 3 (.tmp 38) (.tmp 36) rfl oiInt (q := 3) (by first | rfl | (simp [Act.eval, Act.put, Addr.add]; done)) rfl rfl HS.out.k4 (by simp [rawC]) ?_; intro wf hb5 hg5 hz5; have n_ := Aside0.mk (HS.out.put4 (c5 := rawC (⟨8, 0, ⟨#[]⟩, N, 0, 0⟩)) hb5 hg5); clear HS; have HS := n_; clear n_; clear hb5 hg5 hz5) | ((with_reducible refine gate_dst (N := 53) rfl ?_); refine blk_load (cs := rawC (⟨8, 0, ⟨#[]⟩, N, 0, 0⟩)) rfl 62 (.tmp 4) rfl Try.underlying62 rfl info62 rfl HS.out.k4 ?_) | (refine blk_store rfl 62 (.tmp 2) (.tmp 53) rfl (cs' := rawC (⟨8, 0, ⟨#[]⟩, N, 0, 0⟩)) info62 rfl rfl (rawC_one _) HS.out.k2 rfl ?_; intro wg hb6 hg6 hz6; have n_ := Aside0.mk (HS.out.put2 hb6 hg6); clear HS; have HS := n_; clear n_; clear hb6 hg6 hz6))
  refine bodyPost_ret (results_ct rfl _ _ b2 62 (rawC (⟨8, 0, ⟨#[]⟩, N, 0, 0⟩)) (0, 0) _ rfl HS.out.k2 Try.underlying62 rfl info62) rfl ?_
  exact ⟨by first | rfl | (simp; rfl), HS.out.rs, HS.out.gr⟩
set_option maxHeartbeats 8000000 in
set_option maxRecDepth 100000 in
theorem one_cd {W0 w : World} {g : Nat} {l : List Int} {bad : Bool} {L1 : List Int} {B1 : Bool} {K : Int} (hK : K ≠ 1 ∧ K ≠ 3 ∧ K ≠ 5 ∧ K ≠ 7 ∧ K ≠ 8 ∧ K ≠ 9 ∧ K ≠ 10 ∧ K ≠ 11) (h : RS W0 w g l bad) (h1 : numF l bad 1 = (K, L1, B1)) (hu8 : ∀ x ∈ l, 0 ≤ x ∧ x < 256) :
    Calls Try.prog 22 #[.pointer (some ⟨g, 0, none⟩)] w fun e w' => e = .returned (.tuple #[.agg (rawC (rawZ K)), .bool false]) ∧ RS W0 w' g L1 B1 ∧ w.grownBy w' (some g) := by
  have hgl : g < w.heap.size := by obtain ⟨A, c, hB, _, _⟩ := h.box; exact hB.lt
  have h1 := Aside0.mk h1
  have hu8 := Aside0.mk hu8
  have hN := numF_in 1 hu8.out h1.out
  have wrK : IntKind.i64.wrap K = K := IntWalk.i64_in _ (by have := hN; omega)
  have wxK : wrap64 K = K := wrap64_in _ (by have := hN; omega)
  have q1 : (K == 1) = false := by have := hK; simp; omega
  have q3 : (K == 3) = false := by have := hK; simp; omega
  have q5 : (K == 5) = false := by have := hK; simp; omega
  have q7 : (K == 7) = false := by have := hK; simp; omega
  have q8 : (K == 8) = false := by have := hK; simp; omega
  have q9 : (K == 9) = false := by have := hK; simp; omega
  have q10 : (K == 10) = false := by have := hK; simp; omega
  have q11 : (K == 11) = false := by have := hK; simp; omega
  go_enter Try.func22, Try.ntmps22
  go_wp2_with (first | ((with_reducible refine gate_dst (N := 2) rfl ?_); refine box_event ?hg (N := 2) ?hd (cs := #[.int .i64 0, .int .u64 0, .string ⟨#[]⟩, .int .i64 0, .int .i64 0, .int .i64 0]) (t := 62) ?hr ?_; (case hd => rfl); (case hg => rfl); (case hr => first | (go_simp; done) | (go_simp; rfl)); intro b2 hb2 wa hk2 hbl; have HK2 := Aside0.mk (show Blk wa b2 62 (rawC (rawZ 0)) from hk2); have HR := Aside0.mk (h.below hbl); have HG : Aside0 (w.grownBy wa (some g)) := ⟨gr_below hbl⟩; have HN2 : Aside0 (w.heap.size ≤ b2) := ⟨by omega⟩; clear hb2 hk2 hbl) | (go_at_call 10; (with_reducible refine (num_at 1 HR.out h1.out).mono ?_); rintro e wb ⟨rfl, hr, hg⟩; have HR2 := Aside0.mk hr; have HK3 := Aside0.mk (HK2.out.kept hg (fun e => by injection e with e; have := HN2.out; omega)); have HG2 := Aside0.mk (HG.out.trans hg); clear HR HK2 HG hr hg) | ((with_reducible refine gate_dst (N := 4) rfl ?_); refine box_event ?hg (N := 4) ?hd (cs := #[.int .i64 0, .int .u64 0, .string ⟨#[]⟩, .int .i64 0, .int .i64 0, .int .i64 0]) (t := 62) ?hr ?_; (case hd => rfl); (case hg => rfl); (case hr => first | (go_simp; done) | (go_simp; rfl)); intro b4 hb4 wc hk4 hbl; have HS : Aside0 (OS W0 w wc g L1 B1 b2 b4 (rawC (rawZ 0)) (rawC (rawZ 0))) := ⟨⟨HR2.out.below hbl, HG2.out.trans (gr_below hbl), HK3.out.below hbl, hk4, HN2.out, Nat.le_trans HG2.out.size (by omega), (fun e => by have := HK3.out.lt; omega), hgl⟩⟩; clear HR2 HG2 HK3 hb4 hk4 hbl) | (refine blk_store rfl 62 (.tmp 4) (.tmp 9) rfl (cs' := rawC (rawZ K)) info62 rfl rfl (rawC_one _) HS.out.k4 rfl ?_; intro wd hb4 hg4 hz4; have n_ := Aside0.mk (HS.out.put4 hb4 hg4); clear HS; have HS := n_; clear n_; clear hb4 hg4 hz4) | (refine cell_load rfl 3 (.tmp 10) rfl Try.underlying3 rfl rfl (HS.out.k4.cell (o := 0) (v := .int .i64 K) rfl) ?_) | ((with_reducible refine gate_dst (N := 12) rfl ?_); refine blk_load (cs := rawC (rawZ K)) rfl 62 (.tmp 4) rfl Try.underlying62 rfl info62 rfl HS.out.k4 ?_) | (refine blk_store rfl 62 (.tmp 2) (.tmp 12) rfl (cs' := rawC (rawZ K)) info62 rfl rfl (rawC_one _) HS.out.k2 rfl ?_; intro wg hb6 hg6 hz6; have n_ := Aside0.mk (HS.out.put2 hb6 hg6); clear HS; have HS := n_; clear n_; clear hb6 hg6 hz6))
  refine bodyPost_ret (results_ct rfl _ _ b2 62 (rawC (rawZ K)) (0, 0) _ rfl HS.out.k2 Try.underlying62 rfl info62) rfl ?_
  exact ⟨by first | rfl | (simp; rfl), HS.out.rs, HS.out.gr⟩
def atS (K N M O : Int) (L1 L2 L3 L4 : List Int) (B1 B2 B3 B4 : Bool) : Nat → List Int × Bool × SR
  | 0 => (L1, B1, rawZ K)
  | 1 => (L2, B2, ⟨K, 0, ⟨#[]⟩, N, 0, 0⟩)
  | 2 => (L3, B3, ⟨K, 0, ⟨#[]⟩, N, M, 0⟩)
  | _ => (L4, B4, ⟨K, 0, ⟨#[]⟩, N, M, O⟩)
set_option maxHeartbeats 8000000 in
set_option maxRecDepth 100000 in
theorem one_c9 {W0 w : World} {g : Nat} {l : List Int} {bad : Bool} {L1 L2 L3 L4 : List Int} {B1 B2 B3 B4 : Bool} {N M O : Int} (h : RS W0 w g l bad) (h1 : numF l bad 1 = (9, L1, B1)) (h2 : numF L1 B1 2 = (N, L2, B2)) (h3 : numF L2 B2 2 = (M, L3, B3)) (h4 : numF L3 B3 2 = (O, L4, B4)) :
    Calls Try.prog 22 #[.pointer (some ⟨g, 0, none⟩)] w fun e w' => e = .returned (.tuple #[.agg (rawC (⟨9, 0, ⟨#[]⟩, N, M, O⟩)), .bool true]) ∧ RS W0 w' g L4 B4 ∧ w.grownBy w' (some g) := by
  have hgl : g < w.heap.size := by obtain ⟨A, c, hB, _, _⟩ := h.box; exact hB.lt
  have h1 := Aside0.mk h1
  have h2 := Aside0.mk h2
  have h3 := Aside0.mk h3
  have h4 := Aside0.mk h4
  go_enter Try.func22, Try.ntmps22
  go_wp2_with (first | ((with_reducible refine gate_dst (N := 2) rfl ?_); refine box_event ?hg (N := 2) ?hd (cs := #[.int .i64 0, .int .u64 0, .string ⟨#[]⟩, .int .i64 0, .int .i64 0, .int .i64 0]) (t := 62) ?hr ?_; (case hd => rfl); (case hg => rfl); (case hr => first | (go_simp; done) | (go_simp; rfl)); intro b2 hb2 wa hk2 hbl; have HK2 := Aside0.mk (show Blk wa b2 62 (rawC (rawZ 0)) from hk2); have HR := Aside0.mk (h.below hbl); have HG : Aside0 (w.grownBy wa (some g)) := ⟨gr_below hbl⟩; have HN2 : Aside0 (w.heap.size ≤ b2) := ⟨by omega⟩; clear hb2 hk2 hbl) | (go_at_call 10; (with_reducible refine (num_at 1 HR.out h1.out).mono ?_); rintro e wb ⟨rfl, hr, hg⟩; have HR2 := Aside0.mk hr; have HK3 := Aside0.mk (HK2.out.kept hg (fun e => by injection e with e; have := HN2.out; omega)); have HG2 := Aside0.mk (HG.out.trans hg); clear HR HK2 HG hr hg) | ((with_reducible refine gate_dst (N := 4) rfl ?_); refine box_event ?hg (N := 4) ?hd (cs := #[.int .i64 0, .int .u64 0, .string ⟨#[]⟩, .int .i64 0, .int .i64 0, .int .i64 0]) (t := 62) ?hr ?_; (case hd => rfl); (case hg => rfl); (case hr => first | (go_simp; done) | (go_simp; rfl)); intro b4 hb4 wc hk4 hbl; have HS : Aside0 (OS W0 w wc g L1 B1 b2 b4 (rawC (rawZ 0)) (rawC (rawZ 0))) := ⟨⟨HR2.out.below hbl, HG2.out.trans (gr_below hbl), HK3.out.below hbl, hk4, HN2.out, Nat.le_trans HG2.out.size (by omega), (fun e => by have := HK3.out.lt; omega), hgl⟩⟩; clear HR2 HG2 HK3 hb4 hk4 hbl) | (refine blk_store rfl 62 (.tmp 4) (.tmp 9) rfl (cs' := rawC (rawZ 9)) info62 rfl rfl (rawC_one _) HS.out.k4 rfl ?_; intro wd hb4 hg4 hz4; have n_ := Aside0.mk (HS.out.put4 hb4 hg4); clear HS; have HS := n_; clear n_; clear hb4 hg4 hz4) | (refine cell_load rfl 3 (.tmp 10) rfl Try.underlying3 rfl rfl (HS.out.k4.cell (o := 0) (v := .int .i64 9) rfl) ?_))
  go_loopw [43] (fun v43 wr => ∃ i : Nat, i ≤ 3 ∧ v43 = .int .i64 i ∧ Aside0 (OS W0 w wr g (atS 9 N M O L1 L2 L3 L4 B1 B2 B3 B4 i).1 (atS 9 N M O L1 L2 L3 L4 B1 B2 B3 B4 i).2.1 b2 b4 (rawC (rawZ 0)) (rawC (atS 9 N M O L1 L2 L3 L4 B1 B2 B3 B4 i).2.2))) (fun v43 _ => 3 - (intOf v43).toNat)
  case atStart => exact ⟨0, Nat.zero_le _, rfl, HS⟩
  case round =>
    clear HS
    obtain ⟨i, hi, hv43, HS⟩ := hrel
    by_cases hlt : i < 3
    · rcases (show i = 0 ∨ i = 1 ∨ i = 2 by omega) with rfl | rfl | rfl
      · have n_ : Aside0 (OS W0 w wr g L1 B1 b2 b4 (rawC (rawZ 0)) (rawC (rawZ 9))) := ⟨HS.out⟩
        clear HS; have HS := n_; clear n_
        change _ = Value.int .i64 0 at hv43
        subst hv43
        have hN := numF_in 2 HS.out.rs.u8 h2.out
        have wrN : IntKind.i64.wrap N = N := IntWalk.i64_in _ (by have := hN; omega)
        have wxN : wrap64 N = N := wrap64_in _ (by have := hN; omega)
        clear hN
        go_wp2_with (first | (go_at_call 10; (with_reducible refine (num_at 2 HS.out.rs h2.out).mono ?_); rintro e we ⟨rfl, hr, hg⟩; have n_ := Aside0.mk (HS.out.called hr hg); clear HS; have HS := n_; clear n_; clear hr hg) | (refine cell_store rfl 3 (.tmp 51) (.tmp 49) rfl oiInt (q := 3) (by first | rfl | (simp [Act.eval, Act.put, Addr.add]; done)) rfl rfl HS.out.k4 (by simp [rawC]) ?_; intro wf hb5 hg5 hz5; have n_ := Aside0.mk (HS.out.put4 (c5 := rawC (⟨9, 0, ⟨#[]⟩, N, 0, 0⟩)) hb5 hg5); clear HS; have HS := n_; clear n_; clear hb5 hg5 hz5))
        go_roundw
        case rel => exact ⟨1, by omega, rfl, ⟨HS.out⟩⟩
        case measure => simp [intOf]
      · have n_ : Aside0 (OS W0 w wr g L2 B2 b2 b4 (rawC (rawZ 0)) (rawC (⟨9, 0, ⟨#[]⟩, N, 0, 0⟩))) := ⟨HS.out⟩
        clear HS; have HS := n_; clear n_
        change _ = Value.int .i64 1 at hv43
        subst hv43
        have hN := numF_in 2 HS.out.rs.u8 h3.out
        have wrM : IntKind.i64.wrap M = M := IntWalk.i64_in _ (by have := hN; omega)
        have wxM : wrap64 M = M := wrap64_in _ (by have := hN; omega)
        clear hN
        go_wp2_with (first | (go_at_call 10; (with_reducible refine (num_at 2 HS.out.rs h3.out).mono ?_); rintro e we ⟨rfl, hr, hg⟩; have n_ := Aside0.mk (HS.out.called hr hg); clear HS; have HS := n_; clear n_; clear hr hg) | (refine cell_store rfl 3 (.tmp 51) (.tmp 49) rfl oiInt (q := 4) (by first | rfl | (simp [Act.eval, Act.put, Addr.add]; done)) rfl rfl HS.out.k4 (by simp [rawC]) ?_; intro wf hb5 hg5 hz5; have n_ := Aside0.mk (HS.out.put4 (c5 := rawC (⟨9, 0, ⟨#[]⟩, N, M, 0⟩)) hb5 hg5); clear HS; have HS := n_; clear n_; clear hb5 hg5 hz5))
        go_roundw
        case rel => exact ⟨2, by omega, rfl, ⟨HS.out⟩⟩
        case measure => simp [intOf]
      · have n_ : Aside0 (OS W0 w wr g L3 B3 b2 b4 (rawC (rawZ 0)) (rawC (⟨9, 0, ⟨#[]⟩, N, M, 0⟩))) := ⟨HS.out⟩
        clear HS; have HS := n_; clear n_
        change _ = Value.int .i64 2 at hv43
        subst hv43
        have hN := numF_in 2 HS.out.rs.u8 h4.out
        have wrO : IntKind.i64.wrap O = O := IntWalk.i64_in _ (by have := hN; omega)
        have wxO : wrap64 O = O := wrap64_in _ (by have := hN; omega)
        clear hN
        go_wp2_with (first | (go_at_call 10; (with_reducible refine (num_at 2 HS.out.rs h4.out).mono ?_); rintro e we ⟨rfl, hr, hg⟩; have n_ := Aside0.mk (HS.out.called hr hg); clear HS; have HS := n_; clear n_; clear hr hg) | (refine cell_store rfl 3 (.tmp 51) (.tmp 49) rfl oiInt (q := 5) (by first | rfl | (simp [Act.eval, Act.put, Addr.add]; done)) rfl rfl HS.out.k4 (by simp [rawC]) ?_; intro wf hb5 hg5 hz5; have n_ := Aside0.mk (HS.out.put4 (c5 := rawC (⟨9, 0, ⟨#[]⟩, N, M, O⟩)) hb5 hg5); clear HS; have HS := n_; clear n_; clear hb5 hg5 hz5))
        go_roundw
        case rel => exact ⟨3, by omega, rfl, ⟨HS.out⟩⟩
        case measure => simp [intOf]
    · obtain rfl : i = 3 := by omega
      change _ = Value.int .i64 3 at hv43
      subst hv43
      have n_ : Aside0 (OS W0 w wr g L4 B4 b2 b4 (rawC (rawZ 0)) (rawC (⟨9, 0, ⟨#[]⟩, N, M, O⟩))) := ⟨HS.out⟩
      clear HS; have HS := n_; clear n_
      go_wp2_with (first | ((with_reducible refine gate_dst (N := 53) rfl ?_); refine blk_load (cs := rawC (⟨9, 0, ⟨#[]⟩, N, M, O⟩)) rfl 62 (.tmp 4) rfl Try.underlying62 rfl info62 rfl HS.out.k4 ?_) | (refine blk_store rfl 62 (.tmp 2) (.tmp 53) rfl (cs' := rawC (⟨9, 0, ⟨#[]⟩, N, M, O⟩)) info62 rfl rfl (rawC_one _) HS.out.k2 rfl ?_; intro wg hb6 hg6 hz6; have n_ := Aside0.mk (HS.out.put2 hb6 hg6); clear HS; have HS := n_; clear n_; clear hb6 hg6 hz6))
      refine bodyPost_ret (results_ct rfl _ _ b2 62 (rawC (⟨9, 0, ⟨#[]⟩, N, M, O⟩)) (0, 0) _ rfl HS.out.k2 Try.underlying62 rfl info62) rfl ?_
      exact ⟨by first | rfl | (simp; rfl), HS.out.rs, HS.out.gr⟩
set_option maxHeartbeats 8000000 in
set_option maxRecDepth 100000 in
theorem one_c10 {W0 w : World} {g : Nat} {l : List Int} {bad : Bool} {L1 L2 L3 L4 : List Int} {B1 B2 B3 B4 : Bool} {N M O : Int} (h : RS W0 w g l bad) (h1 : numF l bad 1 = (10, L1, B1)) (h2 : numF L1 B1 2 = (N, L2, B2)) (h3 : numF L2 B2 2 = (M, L3, B3)) (h4 : numF L3 B3 2 = (O, L4, B4)) :
    Calls Try.prog 22 #[.pointer (some ⟨g, 0, none⟩)] w fun e w' => e = .returned (.tuple #[.agg (rawC (⟨10, 0, ⟨#[]⟩, N, M, O⟩)), .bool true]) ∧ RS W0 w' g L4 B4 ∧ w.grownBy w' (some g) := by
  have hgl : g < w.heap.size := by obtain ⟨A, c, hB, _, _⟩ := h.box; exact hB.lt
  have h1 := Aside0.mk h1
  have h2 := Aside0.mk h2
  have h3 := Aside0.mk h3
  have h4 := Aside0.mk h4
  go_enter Try.func22, Try.ntmps22
  go_wp2_with (first | ((with_reducible refine gate_dst (N := 2) rfl ?_); refine box_event ?hg (N := 2) ?hd (cs := #[.int .i64 0, .int .u64 0, .string ⟨#[]⟩, .int .i64 0, .int .i64 0, .int .i64 0]) (t := 62) ?hr ?_; (case hd => rfl); (case hg => rfl); (case hr => first | (go_simp; done) | (go_simp; rfl)); intro b2 hb2 wa hk2 hbl; have HK2 := Aside0.mk (show Blk wa b2 62 (rawC (rawZ 0)) from hk2); have HR := Aside0.mk (h.below hbl); have HG : Aside0 (w.grownBy wa (some g)) := ⟨gr_below hbl⟩; have HN2 : Aside0 (w.heap.size ≤ b2) := ⟨by omega⟩; clear hb2 hk2 hbl) | (go_at_call 10; (with_reducible refine (num_at 1 HR.out h1.out).mono ?_); rintro e wb ⟨rfl, hr, hg⟩; have HR2 := Aside0.mk hr; have HK3 := Aside0.mk (HK2.out.kept hg (fun e => by injection e with e; have := HN2.out; omega)); have HG2 := Aside0.mk (HG.out.trans hg); clear HR HK2 HG hr hg) | ((with_reducible refine gate_dst (N := 4) rfl ?_); refine box_event ?hg (N := 4) ?hd (cs := #[.int .i64 0, .int .u64 0, .string ⟨#[]⟩, .int .i64 0, .int .i64 0, .int .i64 0]) (t := 62) ?hr ?_; (case hd => rfl); (case hg => rfl); (case hr => first | (go_simp; done) | (go_simp; rfl)); intro b4 hb4 wc hk4 hbl; have HS : Aside0 (OS W0 w wc g L1 B1 b2 b4 (rawC (rawZ 0)) (rawC (rawZ 0))) := ⟨⟨HR2.out.below hbl, HG2.out.trans (gr_below hbl), HK3.out.below hbl, hk4, HN2.out, Nat.le_trans HG2.out.size (by omega), (fun e => by have := HK3.out.lt; omega), hgl⟩⟩; clear HR2 HG2 HK3 hb4 hk4 hbl) | (refine blk_store rfl 62 (.tmp 4) (.tmp 9) rfl (cs' := rawC (rawZ 10)) info62 rfl rfl (rawC_one _) HS.out.k4 rfl ?_; intro wd hb4 hg4 hz4; have n_ := Aside0.mk (HS.out.put4 hb4 hg4); clear HS; have HS := n_; clear n_; clear hb4 hg4 hz4) | (refine cell_load rfl 3 (.tmp 10) rfl Try.underlying3 rfl rfl (HS.out.k4.cell (o := 0) (v := .int .i64 10) rfl) ?_))
  go_loopw [43] (fun v43 wr => ∃ i : Nat, i ≤ 3 ∧ v43 = .int .i64 i ∧ Aside0 (OS W0 w wr g (atS 10 N M O L1 L2 L3 L4 B1 B2 B3 B4 i).1 (atS 10 N M O L1 L2 L3 L4 B1 B2 B3 B4 i).2.1 b2 b4 (rawC (rawZ 0)) (rawC (atS 10 N M O L1 L2 L3 L4 B1 B2 B3 B4 i).2.2))) (fun v43 _ => 3 - (intOf v43).toNat)
  case atStart => exact ⟨0, Nat.zero_le _, rfl, HS⟩
  case round =>
    clear HS
    obtain ⟨i, hi, hv43, HS⟩ := hrel
    by_cases hlt : i < 3
    · rcases (show i = 0 ∨ i = 1 ∨ i = 2 by omega) with rfl | rfl | rfl
      · have n_ : Aside0 (OS W0 w wr g L1 B1 b2 b4 (rawC (rawZ 0)) (rawC (rawZ 10))) := ⟨HS.out⟩
        clear HS; have HS := n_; clear n_
        change _ = Value.int .i64 0 at hv43
        subst hv43
        have hN := numF_in 2 HS.out.rs.u8 h2.out
        have wrN : IntKind.i64.wrap N = N := IntWalk.i64_in _ (by have := hN; omega)
        have wxN : wrap64 N = N := wrap64_in _ (by have := hN; omega)
        clear hN
        go_wp2_with (first | (go_at_call 10; (with_reducible refine (num_at 2 HS.out.rs h2.out).mono ?_); rintro e we ⟨rfl, hr, hg⟩; have n_ := Aside0.mk (HS.out.called hr hg); clear HS; have HS := n_; clear n_; clear hr hg) | (refine cell_store rfl 3 (.tmp 51) (.tmp 49) rfl oiInt (q := 3) (by first | rfl | (simp [Act.eval, Act.put, Addr.add]; done)) rfl rfl HS.out.k4 (by simp [rawC]) ?_; intro wf hb5 hg5 hz5; have n_ := Aside0.mk (HS.out.put4 (c5 := rawC (⟨10, 0, ⟨#[]⟩, N, 0, 0⟩)) hb5 hg5); clear HS; have HS := n_; clear n_; clear hb5 hg5 hz5))
        go_roundw
        case rel => exact ⟨1, by omega, rfl, ⟨HS.out⟩⟩
        case measure => simp [intOf]
      · have n_ : Aside0 (OS W0 w wr g L2 B2 b2 b4 (rawC (rawZ 0)) (rawC (⟨10, 0, ⟨#[]⟩, N, 0, 0⟩))) := ⟨HS.out⟩
        clear HS; have HS := n_; clear n_
        change _ = Value.int .i64 1 at hv43
        subst hv43
        have hN := numF_in 2 HS.out.rs.u8 h3.out
        have wrM : IntKind.i64.wrap M = M := IntWalk.i64_in _ (by have := hN; omega)
        have wxM : wrap64 M = M := wrap64_in _ (by have := hN; omega)
        clear hN
        go_wp2_with (first | (go_at_call 10; (with_reducible refine (num_at 2 HS.out.rs h3.out).mono ?_); rintro e we ⟨rfl, hr, hg⟩; have n_ := Aside0.mk (HS.out.called hr hg); clear HS; have HS := n_; clear n_; clear hr hg) | (refine cell_store rfl 3 (.tmp 51) (.tmp 49) rfl oiInt (q := 4) (by first | rfl | (simp [Act.eval, Act.put, Addr.add]; done)) rfl rfl HS.out.k4 (by simp [rawC]) ?_; intro wf hb5 hg5 hz5; have n_ := Aside0.mk (HS.out.put4 (c5 := rawC (⟨10, 0, ⟨#[]⟩, N, M, 0⟩)) hb5 hg5); clear HS; have HS := n_; clear n_; clear hb5 hg5 hz5))
        go_roundw
        case rel => exact ⟨2, by omega, rfl, ⟨HS.out⟩⟩
        case measure => simp [intOf]
      · have n_ : Aside0 (OS W0 w wr g L3 B3 b2 b4 (rawC (rawZ 0)) (rawC (⟨10, 0, ⟨#[]⟩, N, M, 0⟩))) := ⟨HS.out⟩
        clear HS; have HS := n_; clear n_
        change _ = Value.int .i64 2 at hv43
        subst hv43
        have hN := numF_in 2 HS.out.rs.u8 h4.out
        have wrO : IntKind.i64.wrap O = O := IntWalk.i64_in _ (by have := hN; omega)
        have wxO : wrap64 O = O := wrap64_in _ (by have := hN; omega)
        clear hN
        go_wp2_with (first | (go_at_call 10; (with_reducible refine (num_at 2 HS.out.rs h4.out).mono ?_); rintro e we ⟨rfl, hr, hg⟩; have n_ := Aside0.mk (HS.out.called hr hg); clear HS; have HS := n_; clear n_; clear hr hg) | (refine cell_store rfl 3 (.tmp 51) (.tmp 49) rfl oiInt (q := 5) (by first | rfl | (simp [Act.eval, Act.put, Addr.add]; done)) rfl rfl HS.out.k4 (by simp [rawC]) ?_; intro wf hb5 hg5 hz5; have n_ := Aside0.mk (HS.out.put4 (c5 := rawC (⟨10, 0, ⟨#[]⟩, N, M, O⟩)) hb5 hg5); clear HS; have HS := n_; clear n_; clear hb5 hg5 hz5))
        go_roundw
        case rel => exact ⟨3, by omega, rfl, ⟨HS.out⟩⟩
        case measure => simp [intOf]
    · obtain rfl : i = 3 := by omega
      change _ = Value.int .i64 3 at hv43
      subst hv43
      have n_ : Aside0 (OS W0 w wr g L4 B4 b2 b4 (rawC (rawZ 0)) (rawC (⟨10, 0, ⟨#[]⟩, N, M, O⟩))) := ⟨HS.out⟩
      clear HS; have HS := n_; clear n_
      go_wp2_with (first | ((with_reducible refine gate_dst (N := 53) rfl ?_); refine blk_load (cs := rawC (⟨10, 0, ⟨#[]⟩, N, M, O⟩)) rfl 62 (.tmp 4) rfl Try.underlying62 rfl info62 rfl HS.out.k4 ?_) | (refine blk_store rfl 62 (.tmp 2) (.tmp 53) rfl (cs' := rawC (⟨10, 0, ⟨#[]⟩, N, M, O⟩)) info62 rfl rfl (rawC_one _) HS.out.k2 rfl ?_; intro wg hb6 hg6 hz6; have n_ := Aside0.mk (HS.out.put2 hb6 hg6); clear HS; have HS := n_; clear n_; clear hb6 hg6 hz6))
      refine bodyPost_ret (results_ct rfl _ _ b2 62 (rawC (⟨10, 0, ⟨#[]⟩, N, M, O⟩)) (0, 0) _ rfl HS.out.k2 Try.underlying62 rfl info62) rfl ?_
      exact ⟨by first | rfl | (simp; rfl), HS.out.rs, HS.out.gr⟩
set_option maxHeartbeats 8000000 in
set_option maxRecDepth 100000 in
theorem one_c11 {W0 w : World} {g : Nat} {l : List Int} {bad : Bool} {L1 L2 L3 L4 : List Int} {B1 B2 B3 B4 : Bool} {N M O : Int} (h : RS W0 w g l bad) (h1 : numF l bad 1 = (11, L1, B1)) (h2 : numF L1 B1 2 = (N, L2, B2)) (h3 : numF L2 B2 2 = (M, L3, B3)) (h4 : numF L3 B3 2 = (O, L4, B4)) :
    Calls Try.prog 22 #[.pointer (some ⟨g, 0, none⟩)] w fun e w' => e = .returned (.tuple #[.agg (rawC (⟨11, 0, ⟨#[]⟩, N, M, O⟩)), .bool true]) ∧ RS W0 w' g L4 B4 ∧ w.grownBy w' (some g) := by
  have hgl : g < w.heap.size := by obtain ⟨A, c, hB, _, _⟩ := h.box; exact hB.lt
  have h1 := Aside0.mk h1
  have h2 := Aside0.mk h2
  have h3 := Aside0.mk h3
  have h4 := Aside0.mk h4
  go_enter Try.func22, Try.ntmps22
  go_wp2_with (first | ((with_reducible refine gate_dst (N := 2) rfl ?_); refine box_event ?hg (N := 2) ?hd (cs := #[.int .i64 0, .int .u64 0, .string ⟨#[]⟩, .int .i64 0, .int .i64 0, .int .i64 0]) (t := 62) ?hr ?_; (case hd => rfl); (case hg => rfl); (case hr => first | (go_simp; done) | (go_simp; rfl)); intro b2 hb2 wa hk2 hbl; have HK2 := Aside0.mk (show Blk wa b2 62 (rawC (rawZ 0)) from hk2); have HR := Aside0.mk (h.below hbl); have HG : Aside0 (w.grownBy wa (some g)) := ⟨gr_below hbl⟩; have HN2 : Aside0 (w.heap.size ≤ b2) := ⟨by omega⟩; clear hb2 hk2 hbl) | (go_at_call 10; (with_reducible refine (num_at 1 HR.out h1.out).mono ?_); rintro e wb ⟨rfl, hr, hg⟩; have HR2 := Aside0.mk hr; have HK3 := Aside0.mk (HK2.out.kept hg (fun e => by injection e with e; have := HN2.out; omega)); have HG2 := Aside0.mk (HG.out.trans hg); clear HR HK2 HG hr hg) | ((with_reducible refine gate_dst (N := 4) rfl ?_); refine box_event ?hg (N := 4) ?hd (cs := #[.int .i64 0, .int .u64 0, .string ⟨#[]⟩, .int .i64 0, .int .i64 0, .int .i64 0]) (t := 62) ?hr ?_; (case hd => rfl); (case hg => rfl); (case hr => first | (go_simp; done) | (go_simp; rfl)); intro b4 hb4 wc hk4 hbl; have HS : Aside0 (OS W0 w wc g L1 B1 b2 b4 (rawC (rawZ 0)) (rawC (rawZ 0))) := ⟨⟨HR2.out.below hbl, HG2.out.trans (gr_below hbl), HK3.out.below hbl, hk4, HN2.out, Nat.le_trans HG2.out.size (by omega), (fun e => by have := HK3.out.lt; omega), hgl⟩⟩; clear HR2 HG2 HK3 hb4 hk4 hbl) | (refine blk_store rfl 62 (.tmp 4) (.tmp 9) rfl (cs' := rawC (rawZ 11)) info62 rfl rfl (rawC_one _) HS.out.k4 rfl ?_; intro wd hb4 hg4 hz4; have n_ := Aside0.mk (HS.out.put4 hb4 hg4); clear HS; have HS := n_; clear n_; clear hb4 hg4 hz4) | (refine cell_load rfl 3 (.tmp 10) rfl Try.underlying3 rfl rfl (HS.out.k4.cell (o := 0) (v := .int .i64 11) rfl) ?_))
  go_loopw [43] (fun v43 wr => ∃ i : Nat, i ≤ 3 ∧ v43 = .int .i64 i ∧ Aside0 (OS W0 w wr g (atS 11 N M O L1 L2 L3 L4 B1 B2 B3 B4 i).1 (atS 11 N M O L1 L2 L3 L4 B1 B2 B3 B4 i).2.1 b2 b4 (rawC (rawZ 0)) (rawC (atS 11 N M O L1 L2 L3 L4 B1 B2 B3 B4 i).2.2))) (fun v43 _ => 3 - (intOf v43).toNat)
  case atStart => exact ⟨0, Nat.zero_le _, rfl, HS⟩
  case round =>
    clear HS
    obtain ⟨i, hi, hv43, HS⟩ := hrel
    by_cases hlt : i < 3
    · rcases (show i = 0 ∨ i = 1 ∨ i = 2 by omega) with rfl | rfl | rfl
      · have n_ : Aside0 (OS W0 w wr g L1 B1 b2 b4 (rawC (rawZ 0)) (rawC (rawZ 11))) := ⟨HS.out⟩
        clear HS; have HS := n_; clear n_
        change _ = Value.int .i64 0 at hv43
        subst hv43
        have hN := numF_in 2 HS.out.rs.u8 h2.out
        have wrN : IntKind.i64.wrap N = N := IntWalk.i64_in _ (by have := hN; omega)
        have wxN : wrap64 N = N := wrap64_in _ (by have := hN; omega)
        clear hN
        go_wp2_with (first | (go_at_call 10; (with_reducible refine (num_at 2 HS.out.rs h2.out).mono ?_); rintro e we ⟨rfl, hr, hg⟩; have n_ := Aside0.mk (HS.out.called hr hg); clear HS; have HS := n_; clear n_; clear hr hg) | (refine cell_store rfl 3 (.tmp 51) (.tmp 49) rfl oiInt (q := 3) (by first | rfl | (simp [Act.eval, Act.put, Addr.add]; done)) rfl rfl HS.out.k4 (by simp [rawC]) ?_; intro wf hb5 hg5 hz5; have n_ := Aside0.mk (HS.out.put4 (c5 := rawC (⟨11, 0, ⟨#[]⟩, N, 0, 0⟩)) hb5 hg5); clear HS; have HS := n_; clear n_; clear hb5 hg5 hz5))
        go_roundw
        case rel => exact ⟨1, by omega, rfl, ⟨HS.out⟩⟩
        case measure => simp [intOf]
      · have n_ : Aside0 (OS W0 w wr g L2 B2 b2 b4 (rawC (rawZ 0)) (rawC (⟨11, 0, ⟨#[]⟩, N, 0, 0⟩))) := ⟨HS.out⟩
        clear HS; have HS := n_; clear n_
        change _ = Value.int .i64 1 at hv43
        subst hv43
        have hN := numF_in 2 HS.out.rs.u8 h3.out
        have wrM : IntKind.i64.wrap M = M := IntWalk.i64_in _ (by have := hN; omega)
        have wxM : wrap64 M = M := wrap64_in _ (by have := hN; omega)
        clear hN
        go_wp2_with (first | (go_at_call 10; (with_reducible refine (num_at 2 HS.out.rs h3.out).mono ?_); rintro e we ⟨rfl, hr, hg⟩; have n_ := Aside0.mk (HS.out.called hr hg); clear HS; have HS := n_; clear n_; clear hr hg) | (refine cell_store rfl 3 (.tmp 51) (.tmp 49) rfl oiInt (q := 4) (by first | rfl | (simp [Act.eval, Act.put, Addr.add]; done)) rfl rfl HS.out.k4 (by simp [rawC]) ?_; intro wf hb5 hg5 hz5; have n_ := Aside0.mk (HS.out.put4 (c5 := rawC (⟨11, 0, ⟨#[]⟩, N, M, 0⟩)) hb5 hg5); clear HS; have HS := n_; clear n_; clear hb5 hg5 hz5))
        go_roundw
        case rel => exact ⟨2, by omega, rfl, ⟨HS.out⟩⟩
        case measure => simp [intOf]
      · have n_ : Aside0 (OS W0 w wr g L3 B3 b2 b4 (rawC (rawZ 0)) (rawC (⟨11, 0, ⟨#[]⟩, N, M, 0⟩))) := ⟨HS.out⟩
        clear HS; have HS := n_; clear n_
        change _ = Value.int .i64 2 at hv43
        subst hv43
        have hN := numF_in 2 HS.out.rs.u8 h4.out
        have wrO : IntKind.i64.wrap O = O := IntWalk.i64_in _ (by have := hN; omega)
        have wxO : wrap64 O = O := wrap64_in _ (by have := hN; omega)
        clear hN
        go_wp2_with (first | (go_at_call 10; (with_reducible refine (num_at 2 HS.out.rs h4.out).mono ?_); rintro e we ⟨rfl, hr, hg⟩; have n_ := Aside0.mk (HS.out.called hr hg); clear HS; have HS := n_; clear n_; clear hr hg) | (refine cell_store rfl 3 (.tmp 51) (.tmp 49) rfl oiInt (q := 5) (by first | rfl | (simp [Act.eval, Act.put, Addr.add]; done)) rfl rfl HS.out.k4 (by simp [rawC]) ?_; intro wf hb5 hg5 hz5; have n_ := Aside0.mk (HS.out.put4 (c5 := rawC (⟨11, 0, ⟨#[]⟩, N, M, O⟩)) hb5 hg5); clear HS; have HS := n_; clear n_; clear hb5 hg5 hz5))
        go_roundw
        case rel => exact ⟨3, by omega, rfl, ⟨HS.out⟩⟩
        case measure => simp [intOf]
    · obtain rfl : i = 3 := by omega
      change _ = Value.int .i64 3 at hv43
      subst hv43
      have n_ : Aside0 (OS W0 w wr g L4 B4 b2 b4 (rawC (rawZ 0)) (rawC (⟨11, 0, ⟨#[]⟩, N, M, O⟩))) := ⟨HS.out⟩
      clear HS; have HS := n_; clear n_
      go_wp2_with (first | ((with_reducible refine gate_dst (N := 53) rfl ?_); refine blk_load (cs := rawC (⟨11, 0, ⟨#[]⟩, N, M, O⟩)) rfl 62 (.tmp 4) rfl Try.underlying62 rfl info62 rfl HS.out.k4 ?_) | (refine blk_store rfl 62 (.tmp 2) (.tmp 53) rfl (cs' := rawC (⟨11, 0, ⟨#[]⟩, N, M, O⟩)) info62 rfl rfl (rawC_one _) HS.out.k2 rfl ?_; intro wg hb6 hg6 hz6; have n_ := Aside0.mk (HS.out.put2 hb6 hg6); clear HS; have HS := n_; clear n_; clear hb6 hg6 hz6))
      refine bodyPost_ret (results_ct rfl _ _ b2 62 (rawC (⟨11, 0, ⟨#[]⟩, N, M, O⟩)) (0, 0) _ rfl HS.out.k2 Try.underlying62 rfl info62) rfl ?_
      exact ⟨by first | rfl | (simp; rfl), HS.out.rs, HS.out.gr⟩
theorem numF_u8 {l L : List Int} {bad B : Bool} {v n : Int} (h : ∀ x ∈ l, 0 ≤ x ∧ x < 256) (hv : numF l bad n = (v, L, B)) : ∀ x ∈ L, 0 ≤ x ∧ x < 256 := by
  unfold numF at hv
  split at hv
  · injection hv with _ hv; injection hv with hv _; subst hv; exact h
  · split at hv
    · injection hv with _ hv; injection hv with hv _; subst hv; intro x hx; cases hx
    · injection hv with _ hv; injection hv with hv _; subst hv; exact u8_drop h _
theorem one_calls {W0 w : World} {g : Nat} {l l2 : List Int} {bad b2 ok : Bool} {x : SR} (h : RS W0 w g l bad) (hv : oneF l bad = (x, ok, l2, b2)) :
    Calls Try.prog 22 #[.pointer (some ⟨g, 0, none⟩)] w fun e w' => e = .returned (.tuple #[.agg (rawC x), .bool ok]) ∧ RS W0 w' g l2 b2 ∧ w.grownBy w' (some g) := by
  rcases h1 : numF l bad 1 with ⟨K, L1, B1⟩
  have hu := numF_u8 h.u8 h1
  unfold oneF at hv
  simp only [h1] at hv
  by_cases k1 : K = 1
  · subst k1
    rcases h2 : numF L1 B1 2 with ⟨N, L2, B2⟩
    rcases h3 : takeF L2 B2 N with ⟨S, L3, B3⟩
    simp only [h2, h3, if_true] at hv
    simp only [Prod.mk.injEq] at hv
    obtain ⟨rfl, rfl, rfl, rfl⟩ := hv
    exact one_c1 h h1 hu h2 h3
  rw [if_neg k1] at hv
  by_cases k3 : K = 3
  · subst k3
    rcases h2 : numF L1 B1 4 with ⟨N, L2, B2⟩
    simp only [h2, if_true] at hv
    simp only [Prod.mk.injEq] at hv
    obtain ⟨rfl, rfl, rfl, rfl⟩ := hv
    exact one_c3 h h1 hu h2
  rw [if_neg k3] at hv
  by_cases k5 : K = 5
  · subst k5
    rcases h2 : numF L1 B1 8 with ⟨N, L2, B2⟩
    simp only [h2, if_true] at hv
    simp only [Prod.mk.injEq] at hv
    obtain ⟨rfl, rfl, rfl, rfl⟩ := hv
    exact one_c5 h h1 hu h2
  rw [if_neg k5] at hv
  by_cases k7 : K = 7 ∨ K = 8
  · rw [if_pos k7] at hv
    rcases h2 : numF L1 B1 2 with ⟨N, L2, B2⟩
    simp only [h2] at hv
    simp only [Prod.mk.injEq] at hv
    obtain ⟨rfl, rfl, rfl, rfl⟩ := hv
    rcases k7 with k7 | k7
    · subst k7; exact one_c7 h h1 hu h2
    · subst k7; exact one_c8 h h1 hu h2
  rw [if_neg k7] at hv
  by_cases k9 : K = 9 ∨ K = 10 ∨ K = 11
  · rw [if_pos k9] at hv
    rcases h2 : numF L1 B1 2 with ⟨N, L2, B2⟩
    rcases h3 : numF L2 B2 2 with ⟨M, L3, B3⟩
    rcases h4 : numF L3 B3 2 with ⟨O, L4, B4⟩
    simp only [h2, h3, h4] at hv
    simp only [Prod.mk.injEq] at hv
    obtain ⟨rfl, rfl, rfl, rfl⟩ := hv
    rcases k9 with k9 | k9 | k9
    · subst k9; exact one_c9 h h1 h2 h3 h4
    · subst k9; exact one_c10 h h1 h2 h3 h4
    · subst k9; exact one_c11 h h1 h2 h3 h4
  rw [if_neg k9] at hv
  simp only [Prod.mk.injEq] at hv
  obtain ⟨rfl, rfl, rfl, rfl⟩ := hv
  exact one_cd (by omega) h h1 h.u8
end Go.Proofs.Ytedmhopginmjaaa.PAll
