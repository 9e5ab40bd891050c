import Derived.Test.YtedmhopginmjaaaZValid
import Derived.Test.YtedmhopginmjaaaZWalkRuns
section
namespace Go.Proofs.Ytedmhopginmjaaa.PAll
open Go.RowKit Go.Proofs.YtedmhopginmjaaaW.PrintWords
set_option linter.unusedVariables false
set_option linter.unusedSimpArgs false
def textB (s : ByteArray) : List Int := [1] ++ ([(s.size : Int) / 256, (s.size : Int) % 256] ++ bytesOf s)
def beB (x : Int) : Nat → List Int
  | 0 => []
  | k + 1 => x / 2 ^ (8 * k) % 256 :: beB x k
def numB (x : Int) : List Int := ([3] ++ beB x 4) ++ ([5] ++ beB x 8)
def rawT (s : ByteArray) : SR := ⟨1, 0, s, 0, 0, 0⟩
def rawI (x : Int) : SR := ⟨3, x % 4294967296, ⟨#[]⟩, 0, 0, 0⟩
def rawL (x : Int) : SR := ⟨5, x % 18446744073709551616, ⟨#[]⟩, 0, 0, 0⟩
def conT (s : ByteArray) : S44 := ⟨1, 0, s, ⟨#[]⟩, ⟨#[]⟩⟩
def conI (x : Int) : S44 := ⟨3, wrap64 (wrap32 x), ⟨#[]⟩, ⟨#[]⟩, ⟨#[]⟩⟩
def conL (x : Int) : S44 := ⟨5, x, ⟨#[]⟩, ⟨#[]⟩, ⟨#[]⟩⟩
theorem beB_len (x : Int) : ∀ k, (beB x k).length = k
  | 0 => rfl
  | k + 1 => by show (beB x k).length + 1 = _; rw [beB_len x k]
theorem numV_be4 (x : Int) : numV (beB x 4) = x % 4294967296 := by
  simp only [beB, numV, List.foldl, Nat.reduceMul]
  omega
theorem numV_be8 (x : Int) : numV (beB x 8) = x % 18446744073709551616 := by
  simp only [beB, numV, List.foldl, Nat.reduceMul]
  omega
theorem numF_app {l R : List Int} {k : Nat} (h1 : 1 ≤ k) (h8 : k ≤ 8) (hl : l.length = k) : numF (l ++ R) false (k : Int) = (numV l, R, false) := by
  unfold numF
  rw [if_neg (by omega), if_neg (by rw [List.length_append]; omega), Int.toNat_natCast]
  subst hl
  simp
theorem takeF_app {l R : List Int} {k : Int} (hl : (l.length : Int) = k) : takeF (l ++ R) false k = (strOfNums l, R, false) := by
  unfold takeF
  subst hl
  rw [if_neg (by rw [List.length_append]; omega), Int.toNat_natCast]
  simp
theorem str_bytes (s : ByteArray) : strOfNums (bytesOf s) = s := by
  cases s with | mk d =>
  unfold strOfNums bytesOf
  congr 1
  rw [List.map_map]
  have : ((fun n : Int => UInt8.ofNat n.toNat) ∘ fun b : UInt8 => (b.toNat : Int)) = id := by
    funext b
    simp
  rw [this, List.map_id]
theorem oneF_text' {s : ByteArray} {R : List Int} (h : s.size ≤ 65535) : oneF (textB s ++ R) false = (rawT s, true, R, false) := by
  have e1 : numF (textB s ++ R) false 1 = (1, [(s.size : Int) / 256, (s.size : Int) % 256] ++ (bytesOf s ++ R), false) := by
    have := numF_app (l := [1]) (R := [(s.size : Int) / 256, (s.size : Int) % 256] ++ (bytesOf s ++ R)) (k := 1) (by decide) (by decide) rfl
    rw [show textB s ++ R = [1] ++ ([(s.size : Int) / 256, (s.size : Int) % 256] ++ (bytesOf s ++ R)) by simp [textB]]
    exact this
  have e2 : numF ([(s.size : Int) / 256, (s.size : Int) % 256] ++ (bytesOf s ++ R)) false 2 = ((s.size : Int), bytesOf s ++ R, false) := by
    have := numF_app (l := [(s.size : Int) / 256, (s.size : Int) % 256]) (R := bytesOf s ++ R) (k := 2) (by decide) (by decide) rfl
    have hv : numV [(s.size : Int) / 256, (s.size : Int) % 256] = s.size := by unfold numV; simp only [List.foldl]; omega
    rw [hv] at this
    exact this
  have e3 : takeF (bytesOf s ++ R) false (s.size : Int) = (s, R, false) := by
    rw [takeF_app (by rw [bytesOf_length]), str_bytes]
  unfold oneF
  dsimp only
  rw [e1]
  dsimp only
  rw [if_pos rfl, e2]
  dsimp only
  rw [e3]
  rfl
theorem oneF_int {x : Int} {R : List Int} : oneF (([3] ++ beB x 4) ++ R) false = (rawI x, true, R, false) := by
  have e1 : numF (([3] ++ beB x 4) ++ R) false 1 = (3, beB x 4 ++ R, false) := by
    rw [List.append_assoc]; exact numF_app (l := [3]) (k := 1) (by decide) (by decide) rfl
  have e2 : numF (beB x 4 ++ R) false 4 = (x % 4294967296, R, false) := by
    have := numF_app (l := beB x 4) (R := R) (k := 4) (by decide) (by decide) (beB_len x 4)
    rw [numV_be4] at this; exact this
  unfold oneF
  dsimp only
  rw [e1]
  dsimp only
  rw [if_neg (by decide), if_pos rfl, e2]
  rfl
theorem oneF_long {x : Int} {R : List Int} : oneF (([5] ++ beB x 8) ++ R) false = (rawL x, true, R, false) := by
  have e1 : numF (([5] ++ beB x 8) ++ R) false 1 = (5, beB x 8 ++ R, false) := by
    rw [List.append_assoc]; exact numF_app (l := [5]) (k := 1) (by decide) (by decide) rfl
  have e2 : numF (beB x 8 ++ R) false 8 = (x % 18446744073709551616, R, false) := by
    have := numF_app (l := beB x 8) (R := R) (k := 8) (by decide) (by decide) (beB_len x 8)
    rw [numV_be8] at this; exact this
  unfold oneF
  dsimp only
  rw [e1]
  dsimp only
  rw [if_neg (by decide), if_neg (by decide), if_pos rfl, e2]
  rfl
theorem rawsF_step {m : Nat} {l R : List Int} {x : SR} (h : oneF l false = (x, true, R, false)) : rawsF (m + 1) l false = ((rawsF m R false).1, x :: (rawsF m R false).2.1, (rawsF m R false).2.2) := by
  conv => lhs; unfold rawsF
  rw [h]; simp
theorem rawsF_texts : ∀ (ts : List ByteArray) (m : Nat) (R : List Int), (∀ s ∈ ts, s.size ≤ 65535) → rawsF (ts.length + m) (ts.flatMap textB ++ R) false = ((rawsF m R false).1, ts.map rawT ++ (rawsF m R false).2.1, (rawsF m R false).2.2)
  | [], m, R, _ => by simp
  | s :: ts, m, R, h => by
    rw [show (s :: ts).length + m = (ts.length + m) + 1 by simp; omega, List.flatMap_cons, List.append_assoc, rawsF_step (oneF_text' (h s (by simp))), rawsF_texts ts m R (fun y hy => h y (by simp [hy]))]
    simp
theorem rawsF_nums : ∀ (ns : List Int) (m : Nat) (R : List Int), rawsF (2 * ns.length + m) (ns.flatMap numB ++ R) false = ((rawsF m R false).1, ns.flatMap (fun x => [rawI x, rawL x]) ++ (rawsF m R false).2.1, (rawsF m R false).2.2)
  | [], m, R => by simp
  | x :: ns, m, R => by
    rw [show 2 * (x :: ns).length + m = ((2 * ns.length + m) + 1) + 1 by simp; omega, List.flatMap_cons, List.append_assoc, numB, List.append_assoc, rawsF_step oneF_int, rawsF_step oneF_long, rawsF_nums ns m R]
    simp
theorem consF_all {L : List SR} : ∀ (xs : List SR), (∀ x ∈ xs, (madeF validS L x).2 = 0) → consF validS L xs = (0, xs.map (fun x => (madeF validS L x).1))
  | [], _ => rfl
  | x :: xs, h => by
    conv => lhs; unfold consF
    rw [if_neg (by rw [h x (by simp)]; simp), consF_all xs (fun y hy => h y (by simp [hy]))]
    rfl
theorem made_T (L : List SR) (s : ByteArray) : madeF validS L (rawT s) = (conT s, 0) := rfl
theorem made_I (L : List SR) (x : Int) : madeF validS L (rawI x) = (conI x, 0) := by
  have h : madeF validS L (rawI x) = (⟨3, wrap64 (wrap32 (x % 4294967296 % 4294967296)), ⟨#[]⟩, ⟨#[]⟩, ⟨#[]⟩⟩, 0) := rfl
  rw [h, conI, show wrap32 (x % 4294967296 % 4294967296) = wrap32 x by unfold wrap32; omega]
theorem made_L (L : List SR) (x : Int) (h1 : -9223372036854775808 ≤ x) (h2 : x ≤ 9223372036854775807) : madeF validS L (rawL x) = (conL x, 0) := by
  have h : madeF validS L (rawL x) = (⟨5, wrap64 (x % 18446744073709551616), ⟨#[]⟩, ⟨#[]⟩, ⟨#[]⟩⟩, 0) := rfl
  rw [h, conL, show wrap64 (x % 18446744073709551616) = x by unfold wrap64; omega]
def laidB (ts : List ByteArray) (ns : List Int) : List Int := [((ts.length + 2 * ns.length + 1 : Nat) : Int) / 256, ((ts.length + 2 * ns.length + 1 : Nat) : Int) % 256] ++ (ts.flatMap textB ++ ns.flatMap numB)
def laidC (ts : List ByteArray) (ns : List Int) : List S44 := conZ 0 :: (ts.map conT ++ ns.flatMap (fun x => [conI x, conL x]))
theorem laid_read (ts : List ByteArray) (ns : List Int) (R : List Int) (hn : ts.length + 2 * ns.length + 1 ≤ 1000) (ht : ∀ s ∈ ts, s.size ≤ 1000) (hx : ∀ x ∈ ns, -9223372036854775808 ≤ x ∧ x ≤ 9223372036854775807) :
    readF validS (laidB ts ns ++ R) false = (0, laidC ts ns, R, false) := by
  generalize hN : ts.length + 2 * ns.length + 1 = N at *
  have e1 : numF (laidB ts ns ++ R) false 2 = ((N : Int), ts.flatMap textB ++ (ns.flatMap numB ++ R), false) := by
    have := numF_app (l := [(N : Int) / 256, (N : Int) % 256]) (R := ts.flatMap textB ++ (ns.flatMap numB ++ R)) (k := 2) (by decide) (by decide) rfl
    have hv : numV [(N : Int) / 256, (N : Int) % 256] = N := by unfold numV; simp only [List.foldl]; omega
    rw [hv] at this
    rw [show laidB ts ns ++ R = [(N : Int) / 256, (N : Int) % 256] ++ (ts.flatMap textB ++ (ns.flatMap numB ++ R)) by simp [laidB, hN]]
    exact this
  have e2 : rawsF (N - 1) (ts.flatMap textB ++ (ns.flatMap numB ++ R)) false = (0, ts.map rawT ++ ns.flatMap (fun x => [rawI x, rawL x]), R, false) := by
    have h0 : rawsF 0 R false = (0, [], R, false) := rfl
    have h1 := rawsF_nums ns 0 R
    rw [h0, Nat.add_zero] at h1
    have h2 := rawsF_texts ts (2 * ns.length) (ns.flatMap numB ++ R) (fun s hs => by have := ht s hs; omega)
    rw [h1] at h2
    rw [show N - 1 = ts.length + 2 * ns.length by omega, h2]
    simp
  have hm : ∀ L, ∀ x ∈ ts.map rawT ++ ns.flatMap (fun x => [rawI x, rawL x]), (madeF validS L x).2 = 0 := by
    intro L x h
    simp only [List.mem_append, List.mem_map, List.mem_flatMap, List.mem_cons, List.not_mem_nil, or_false] at h
    rcases h with ⟨s, _, rfl⟩ | ⟨y, hy, rfl | rfl⟩
    · rw [made_T]
    · rw [made_I]
    · rw [made_L _ _ (hx y hy).1 (hx y hy).2]
  have hmap : ∀ L, (ts.map rawT ++ ns.flatMap (fun x => [rawI x, rawL x])).map (fun x => (madeF validS L x).1) = ts.map conT ++ ns.flatMap (fun x => [conI x, conL x]) := by
    intro L
    rw [List.map_append, List.map_map]
    congr 1
    clear hm e1 e2 hN ht
    induction ns with
    | nil => rfl
    | cons y ys ih =>
      rw [List.flatMap_cons, List.map_append, ih (fun x h => hx x (by simp [h])), List.flatMap_cons]
      simp [made_I, made_L L y (hx y (by simp)).1 (hx y (by simp)).2]
  unfold readF
  simp only [e1]
  rw [if_neg (by simp), if_neg (by omega), Int.toNat_natCast, e2, if_neg (by simp)]
  dsimp only
  rw [consF_all _ (hm _), if_neg (by simp), hmap]
  rfl
theorem bytes_u8 (s : ByteArray) : ∀ x ∈ bytesOf s, 0 ≤ x ∧ x < 256 := by
  intro x hx
  unfold bytesOf at hx
  obtain ⟨b, _, rfl⟩ := List.mem_map.1 hx
  have := b.toNat_lt
  omega
theorem beB_u8 (x : Int) : ∀ k, ∀ y ∈ beB x k, 0 ≤ y ∧ y < 256
  | 0, y, h => by cases h
  | k + 1, y, h => by
    rcases List.mem_cons.1 h with rfl | h
    · omega
    · exact beB_u8 x k y h
theorem laid_u8 (ts : List ByteArray) (ns : List Int) (s : ByteArray) (hn : ts.length + 2 * ns.length + 1 ≤ 1000) (ht : ∀ s ∈ ts, s.size ≤ 1000) : ∀ x ∈ laidB ts ns ++ bytesOf s, 0 ≤ x ∧ x < 256 := by
  intro x hx
  rcases List.mem_append.1 hx with h | h
  · unfold laidB at h
    simp only [List.mem_append, List.mem_cons, List.not_mem_nil, or_false, List.mem_flatMap] at h
    rcases h with (rfl | rfl) | ⟨t, htt, h⟩ | ⟨y, _, h⟩
    · omega
    · omega
    · unfold textB at h
      have := ht t htt
      simp only [List.mem_append, List.mem_cons, List.not_mem_nil, or_false] at h
      rcases h with rfl | (rfl | rfl) | h
      · omega
      · omega
      · omega
      · exact bytes_u8 t x h
    · unfold numB at h
      simp only [List.mem_append, List.mem_cons, List.not_mem_nil, or_false] at h
      rcases h with (rfl | h) | (rfl | h)
      · omega
      · exact beB_u8 y 4 x h
      · omega
      · exact beB_u8 y 8 x h
  · exact bytes_u8 s x h
theorem laidC_len (ts : List ByteArray) (ns : List Int) : (laidC ts ns).length = ts.length + 2 * ns.length + 1 := by
  have : ∀ ns : List Int, (ns.flatMap (fun x => [conI x, conL x])).length = 2 * ns.length := by
    intro ns
    induction ns with
    | nil => rfl
    | cons y ys ih => rw [List.flatMap_cons, List.length_append, ih]; simp; omega
  unfold laidC
  rw [List.length_cons, List.length_append, this, List.length_map]
theorem laidC_text (ts : List ByteArray) (ns : List Int) (i : Nat) (hi : i < ts.length) : rd_T44 (laidC ts ns) (1 + (i : Int)) = conT (ts.getD i ByteArray.empty) := by
  unfold rd_T44 laidC
  rw [show (1 + (i : Int)).toNat = i + 1 by omega, List.getD_cons_succ, List.getD_eq_getElem?_getD, List.getElem?_append_left (by simpa using hi), List.getElem?_map, List.getD_eq_getElem?_getD, List.getElem?_eq_getElem hi]
  rfl
theorem pair_at : ∀ (ns : List Int) (j : Nat), j < ns.length → (ns.flatMap (fun x => [conI x, conL x]))[2 * j]? = some (conI (ns.getD j 0)) ∧ (ns.flatMap (fun x => [conI x, conL x]))[2 * j + 1]? = some (conL (ns.getD j 0))
  | [], j, h => by simp at h
  | x :: xs, 0, h => by simp
  | x :: xs, j + 1, h => by
    have := pair_at xs j (by simpa using h)
    rw [List.flatMap_cons, show 2 * (j + 1) = 2 * j + 2 by omega]
    simpa using this
theorem laidC_num (ts : List ByteArray) (ns : List Int) (j : Nat) (hj : j < ns.length) : rd_T44 (laidC ts ns) (1 + (ts.length : Int) + 2 * (j : Int)) = conI (ns.getD j 0) ∧ rd_T44 (laidC ts ns) (1 + (ts.length : Int) + 2 * (j : Int) + 1) = conL (ns.getD j 0) := by
  obtain ⟨h1, h2⟩ := pair_at ns j hj
  unfold rd_T44 laidC
  constructor
  · rw [show (1 + (ts.length : Int) + 2 * (j : Int)).toNat = (ts.length + 2 * j) + 1 by omega, List.getD_cons_succ, List.getD_eq_getElem?_getD, List.getElem?_append_right (by simp), List.length_map, show ts.length + 2 * j - ts.length = 2 * j by omega, h1]; rfl
  · rw [show (1 + (ts.length : Int) + 2 * (j : Int) + 1).toNat = (ts.length + (2 * j + 1)) + 1 by omega, List.getD_cons_succ, List.getD_eq_getElem?_getD, List.getElem?_append_right (by simp), List.length_map, show ts.length + (2 * j + 1) - ts.length = 2 * j + 1 by omega, h2]; rfl
end Go.Proofs.Ytedmhopginmjaaa.PAll
end
section
namespace Go.Proofs.Ytedmhopginmjaaa.PAll
open Go.RowKit Go.Proofs.YtedmhopginmjaaaW.PrintWords Go.Proofs.YtedmhopginmjaaaW.PrintLast Go.Proofs.YtedmhopginmjaaaW.PrintMore
open Go.Proofs.Ytedmhopginmjaaa.MapInt
set_option linter.unusedVariables false
set_option linter.unusedSimpArgs false
theorem info5b : (Try.prog.info? 5).map (fun i => (i.zero, i.size, i.bytes)) = some (some (.int .u8 0), 1, 1) := by kernel_rfl
structure BW (W w : World) (v : Value) (bs : List Int) : Prop where
  bel : Below W.heap.size W w
  own : w.ownsRow W.heap.size 5 1 v bs.length (nums .u8 bs)
section
variable {W w w2 : World} {v v2 : Value} {bs xs : List Int}
theorem BW.below (h : BW W w v bs) (hb : Below w.heap.size w w2) : BW W w2 v bs := ⟨below_step h.bel hb, own_below h.own hb⟩
theorem BW.made (hb : Below W.heap.size W w) (xs : List Int) (hl : xs.length ≤ 1000) : BW W (w.alloc (.cells (nums .u8 xs).toArray 5)) (.slice (some ⟨w.heap.size, 0, none⟩) xs.length xs.length) xs :=
  ⟨hb.alloc hb.size _, own_lit w W.heap.size 5 .u8 xs hb.size (by omega)⟩
theorem BW.app {o : Obj} (h : BW W w v bs) {cs : List Value} (hn : w2.ownsRow W.heap.size 5 1 v2 (bs.length + xs.length) (nums .u8 bs ++ cs)) (hg : (w.alloc o).grownBy w2 v.ownBlock) (hc : cs = nums .u8 xs) : BW W w2 v2 (bs ++ xs) := by
  refine ⟨(h.bel.alloc h.bel.size o).grown hg (Nat.le_trans h.bel.size (by simp)) (fun k hk => ?_), ?_⟩
  · exact (own_row_lt h.own k hk).2
  · subst hc
    rw [List.length_append, nums_append]; exact hn
theorem BW.str {y : ByteArray} (h : BW W w v bs) (hn : w2.ownsRow W.heap.size 5 1 v2 (bs ++ bytesOf y).length (nums .u8 (bs ++ bytesOf y))) (hg : w.grownBy w2 v.ownBlock) : BW W w2 v2 (bs ++ bytesOf y) :=
  ⟨h.bel.grown hg h.bel.size (fun k hk => (own_row_lt h.own k hk).2), hn⟩
theorem BW.reads (h : BW W w v bs) : ∃ A c, v = .slice A bs.length c ∧ bs.length ≤ c ∧ Kd.C (Kd.int .u8) w A bs.length bs := by
  have h2 := Kd.R_of_own (enc := Value.int .u8) (h1 := fun _ => rfl) (ok := fun _ => True) h.own (fun _ _ => trivial)
  obtain ⟨A, c, rfl⟩ := Kd.R_slice h2
  have h3 := Kd.R_reads' h2
  exact ⟨A, c, rfl, h3.2.1, h3.2.2⟩
end
theorem texts_len : ∀ (ts : List ByteArray), (∀ s ∈ ts, s.size ≤ 1000) → (ts.flatMap textB).length ≤ 1003 * ts.length
  | [], _ => by simp
  | s :: ts, h => by
    have h1 := texts_len ts (fun y hy => h y (by simp [hy]))
    have h2 := h s (by simp)
    rw [List.flatMap_cons, List.length_append]
    have : (textB s).length = 3 + s.size := by simp [textB, bytesOf_length]; omega
    simp only [List.length_cons]
    omega
theorem nums_len : ∀ (ns : List Int), (ns.flatMap numB).length = 14 * ns.length
  | [] => rfl
  | x :: ns => by
    rw [List.flatMap_cons, List.length_append, nums_len ns]
    have : (numB x).length = 14 := by simp [numB, beB_len]
    simp only [List.length_cons]
    omega
theorem from_n {w : World} {A : Option Addr} {c n : Nat} {l : List Int} (hn : n = l.length) (hr : Kd.C (Kd.int .u8) w A l.length l) (hc : l.length ≤ c) (h8 : ∀ x ∈ l, 0 ≤ x ∧ x < 256) :
    Calls Try.prog 9 #[.slice A n c] w fun e w' => ∃ g, e = .returned (.pointer (some ⟨g, 0, none⟩)) ∧ RS w w' g l false ∧ Below w.heap.size w w' ∧ w.heap.size ≤ g := by
  subst hn; exact from_calls hr hc h8
theorem con_zero {w : World} {A : Option Addr} {n : Nat} {l : List S44} (h : Kd.C k44 w A n l) (hn : 0 < n) (hz : rd_T44 l 0 = conZ 0) :
    ∃ ad, A = some ad ∧ w.cell? ad = some (.int .i64 0) ∧ w.cell? ⟨ad.block, ad.off + 1, none⟩ = some (.int .i64 0) ∧ w.cell? ⟨ad.block, ad.off + 2, none⟩ = some (.string ⟨#[]⟩) ∧ w.cell? ⟨ad.block, ad.off + 3, none⟩ = some (.string ⟨#[]⟩) ∧ w.cell? ⟨ad.block, ad.off + 4, none⟩ = some (.string ⟨#[]⟩) := by
  obtain ⟨ad, e, h1⟩ := at_T44 h 0 (by decide) (by omega)
  rw [hz] at h1
  exact ⟨ad, e, h1⟩
attribute [local go_sem high] eqA44
set_option maxHeartbeats 16000000 in
set_option maxRecDepth 100000 in
theorem texts_x (A0 : Option Addr) (c0 : Nat) (ts : List ByteArray) (A1 : Option Addr) (c1 : Nat) (ns : List Int) (W : World) (hr0 : Kd.C Kd.string W A0 ts.length ts) (hc0 : ts.length ≤ c0) (hb0 : ts.length * 16 ≤ 140737488351232) (hr1 : Kd.C (Kd.int .i64) W A1 ns.length ns) (hc1 : ns.length ≤ c1) (hb1 : ns.length * 8 ≤ 140737488351232) (hx : ∀ x ∈ ns, -9223372036854775808 ≤ x ∧ x ≤ 9223372036854775807) :
    Calls Try.prog 4 #[.slice A0 ts.length c0, .slice A1 ns.length c1] W fun e w' => e = .returned (.bool true) ∧ Below W.heap.size W w' := by
  have HB := Aside0.mk (Below.refl W.heap.size W)
  have HR0 := Aside0.mk hr0
  have HR1 := Aside0.mk hr1
  have HX := Aside0.mk hx
  have hw1 : wrap64 (2 * (ns.length : Int)) = 2 * (ns.length : Int) := wrap64_in _ (by omega)
  have hw2 : wrap64 ((ts.length : Int) + 2 * (ns.length : Int)) = (ts.length : Int) + 2 * (ns.length : Int) := wrap64_in _ (by omega)
  have hw3 : wrap64 ((ts.length : Int) + 2 * (ns.length : Int) + 1) = (ts.length : Int) + 2 * (ns.length : Int) + 1 := wrap64_in _ (by omega)
  clear hr0 hr1 hx
  generalize hN : (ts.length : Int) + 2 * (ns.length : Int) + 1 = N at *
  by_cases h1000 : 1000 < N
  · go_enter Try.func4, Try.ntmps4
    go_wp2_with (first | (go_at_call 8; (with_reducible refine (holds_calls _).mono ?_); rintro e w1 ⟨rfl, hb1⟩; have n_ := Aside0.mk (below_step HB.out hb1); clear HB hb1; have HB := n_; clear n_))
    (try go_ret)
    exact ⟨rfl, HB.out⟩
  have hN1 : 0 ≤ N := by omega
  have hN2 : N ≤ 1000 := by omega
  have hd0 : N / 256 < 256 := by omega
  go_enter Try.func4, Try.ntmps4
  go_wp2_with (first | (go_at_call 8; (with_reducible refine (holds_calls _).mono ?_); rintro e w1 ⟨rfl, hb1⟩; have n_ := Aside0.mk (below_step HB.out hb1); clear HB hb1; have HB := n_; clear n_))
  have HS : Aside0 (BW W (w1.alloc (.cells #[.int .u8 (N / 256), .int .u8 (N % 256)] 5)) (.slice (some ⟨w1.heap.size, 0, none⟩) 2 2) [N / 256, N % 256]) := ⟨BW.made HB.out [N / 256, N % 256] (by simp)⟩
  go_loopw [6, 39] (fun v6 v39 wr => ∃ (i : Nat), i ≤ ts.length ∧ v39 = .int .i64 i ∧ Aside0 (BW W wr v6 ([N / 256, N % 256] ++ (ts.take i).flatMap textB) ∧ ∀ s ∈ ts.take i, s.size ≤ 1000)) (fun _ v39 _ => ts.length - (intOf v39).toNat)
  case atStart => exact ⟨0, Nat.zero_le _, rfl, ⟨by simpa using HS.out, fun s hs => by simp at hs⟩⟩
  case round =>
    clear HS
    obtain ⟨i, hi, rfl, HI⟩ := hrel
    have HS := Aside0.mk HI.out.1
    by_cases hlt : i < ts.length
    · have hlt' : (i : Int) < (ts.length : Int) := by omega
      obtain ⟨ad, rfl, hcx⟩ := Kd.at_string (Kd.C_below HR0.out HS.out.bel) (i : Int) (by omega) hlt'
      rw [Int.toNat_natCast] at hcx
      obtain ⟨s, hs⟩ : ∃ s, s = rdOf ByteArray.empty ts (i : Int) := ⟨_, rfl⟩
      rw [← hs] at hcx
      have HTK : Aside0 (ts.take (i + 1) = ts.take i ++ [s]) := ⟨by rw [hs]; unfold rdOf; rw [Int.toNat_natCast, List.take_succ_eq_append_getElem hlt, List.getD_eq_getElem?_getD, List.getElem?_eq_getElem hlt]; rfl⟩
      clear hs
      by_cases hsz : 1000 < (s.size : Int)
      · go_wp2_with fail
        (try go_ret)
        exact ⟨rfl, HS.out.bel⟩
      · have hsz' : ¬ 1000 < (s.size : Int) := hsz
        have hs256 : (s.size : Int) / 256 < 256 := by omega
        have HLN : Aside0 ((([N / 256, N % 256] ++ (ts.take i).flatMap textB).length : Int) ≤ 2 + 1003 * 1000) := ⟨by
          have := texts_len _ HI.out.2
          rw [List.length_append]
          have h2 : (ts.take i).length ≤ ts.length := by rw [List.length_take]; omega
          simp only [List.length_cons, List.length_nil]
          omega⟩
        go_wp2_with (first | ((with_reducible refine gate_dst (N := 55) rfl ?_); at_builtin; refine app_new rfl (.tmp 46) (.tmp 54) 22 5 (.int .u8 0) 1 1 rfl Try.underlying22 info5b rfl (by decide) rfl HS.out.own _ 3 rfl rfl (fun u hu => by simp at hu; rcases hu with rfl | rfl | rfl <;> rfl) (by have := HLN.out; omega) (by have := HLN.out; omega) HS.out.bel.size ?_; intro v' w3 ho hg; have n_ := Aside0.mk (HS.out.app (xs := [1, (s.size : Int) / 256, (s.size : Int) % 256]) ho hg rfl); clear ho hg HS; have HS := n_; clear n_) | ((with_reducible refine gate_dst (N := 58) rfl ?_); at_builtin; refine print_append_str (w0 := W) W.heap.size rfl (.tmp 56) (.tmp 57) 22 9 5 rfl Try.underlying22 Try.underlying9 info5b _ _ s rfl rfl HS.out.own HS.out.bel HS.out.bel.size (by have := HLN.out; rw [List.length_append]; simp only [List.length_cons, List.length_nil]; omega) ?_; intro v2 w4 ho hb hg; have n_ := Aside0.mk (HS.out.str ho hg); clear ho hb hg HS; have HS := n_; clear n_))
        go_roundw
        case rel =>
          refine ⟨i + 1, by omega, by go_num, ⟨?_, fun y hy => ?_⟩⟩
          · have h3 := HS.out
            rw [HTK.out, List.flatMap_append]
            simpa [textB] using h3
          · rw [HTK.out] at hy
            rcases List.mem_append.1 hy with h | h
            · exact HI.out.2 y h
            · simp at h; subst h; omega
        case measure => simp [intOf]; omega
    · have hlt' : ¬ (i : Int) < (ts.length : Int) := by omega
      obtain rfl : i = ts.length := by omega
      have HSM := Aside0.mk HI.out.2
      rw [List.take_length] at HSM HS
      have HTL := Aside0.mk (texts_len _ HSM.out)
      generalize hbase : [N / 256, N % 256] ++ ts.flatMap textB = base at *
      have HBA := Aside0.mk hbase
      have HBL : Aside0 (base.length ≤ 2 + 1003 * ts.length) := ⟨by rw [← hbase, List.length_append]; have := HTL.out; simp only [List.length_cons, List.length_nil]; omega⟩
      clear hbase HTL HI
      go_wp2_with fail
      go_loopw [6, 62] (fun v6 v62 wr => ∃ (j : Nat), j ≤ ns.length ∧ v62 = .int .i64 j ∧ Aside0 (BW W wr v6 (base ++ (ns.take j).flatMap numB))) (fun _ v62 _ => ns.length - (intOf v62).toNat)
      case atStart => exact ⟨0, Nat.zero_le _, rfl, ⟨by simpa using HS.out⟩⟩
      case round =>
        clear HS
        obtain ⟨j, hj, rfl, HS⟩ := hrel
        by_cases hlj : j < ns.length
        · have hlj' : (j : Int) < (ns.length : Int) := by omega
          obtain ⟨ad, rfl, hcx⟩ := Kd.at_int (Kd.C_below HR1.out HS.out.bel) (j : Int) (by omega) hlj'
          rw [Int.toNat_natCast] at hcx
          obtain ⟨x, hx⟩ : ∃ x, x = rd ns (j : Int) := ⟨_, rfl⟩
          rw [← hx] at hcx
          have hmem : x ∈ ns := by rw [hx]; unfold rd; rw [Int.toNat_natCast, List.getD_eq_getElem?_getD, List.getElem?_eq_getElem hlj]; exact List.getElem_mem _
          obtain ⟨hx1, hx2⟩ := HX.out x hmem
          have HTK : Aside0 (ns.take (j + 1) = ns.take j ++ [x]) := ⟨by rw [hx]; unfold rd; rw [Int.toNat_natCast, List.take_succ_eq_append_getElem hlj, List.getD_eq_getElem?_getD, List.getElem?_eq_getElem hlj]; rfl⟩
          have HLN : Aside0 (((base ++ (ns.take j).flatMap numB).length : Int) ≤ 2 + 1003 * 1000 + 14 * 1000) := ⟨by
            rw [List.length_append, nums_len, List.length_take]
            have := HBL.out
            omega⟩
          generalize hbj : base ++ (ns.take j).flatMap numB = bj at *
          have HBJ := Aside0.mk hbj
          clear hbj
          clear hx hmem
          go_wp2_with (first | ((with_reducible refine gate_dst (N := 68) rfl ?_); at_builtin; refine app_new rfl (.tmp 66) (.tmp 67) 22 5 (.int .u8 0) 1 1 rfl Try.underlying22 info5b rfl (by decide) rfl HS.out.own _ 1 rfl rfl (fun u hu => by simp at hu; subst hu; rfl) (by have := HLN.out; omega) (by have := HLN.out; omega) HS.out.bel.size ?_; intro v' w3 ho hg; have n_ := Aside0.mk (HS.out.app (xs := [3]) ho hg rfl); clear ho hg HS; have HS := n_; clear n_))
          go_loopw [6, 11] (fun v6 v11 wr => ∃ (q : Int) (k : Nat) (acc : List Int), k ≤ 4 ∧ q = (k : Int) - 1 ∧ v11 = .int .i64 q ∧ Aside0 (BW W wr v6 (bj ++ [3] ++ acc) ∧ beB x 4 = acc ++ beB x k)) (fun _ v11 _ => (intOf v11 + 1).toNat)
          case atStart => exact ⟨3, 4, [], Nat.le_refl _, by omega, rfl, ⟨by simpa using HS.out, rfl⟩⟩
          case round =>
            clear HS
            obtain ⟨q, k, acc, hk, hq, rfl, HI⟩ := hrel
            have HS := Aside0.mk HI.out.1
            cases k with
            | succ k =>
              have hq' : 0 ≤ q := by omega
              have hacc : (acc.length : Int) = 3 - k := by
                have := congrArg List.length HI.out.2
                rw [List.length_append, beB_len, beB_len] at this
                omega
              obtain rfl : q = (k : Int) := by omega
              have HLN2 : Aside0 (((bj ++ [3] ++ acc).length : Int) ≤ 2 + 1003 * 1000 + 14 * 1000 + 20) := ⟨by
                simp only [List.length_append, List.length_cons, List.length_nil, beB_len]
                have := HLN.out
                omega⟩
              clear hacc hq
              go_wp2_with (first | ((with_reducible refine gate_dst (N := 80) rfl ?_); at_builtin; refine app_new rfl (.tmp 73) (.tmp 79) 22 5 (.int .u8 0) 1 1 rfl Try.underlying22 info5b rfl (by decide) rfl HS.out.own _ 1 rfl rfl (fun u hu => by simp at hu; subst hu; rfl) (by have := HLN2.out; omega) (by have := HLN2.out; omega) HS.out.bel.size ?_; intro v' w3 ho hg; have n_ := Aside0.mk (HS.out.app (xs := [x / 2 ^ (8 * k) % 256]) ho hg rfl); clear ho hg HS; have HS := n_; clear n_))
              go_roundw
              case rel =>
                refine ⟨(k : Int) - 1, k, acc ++ [x / 2 ^ (8 * k) % 256], by omega, rfl, by go_num, ⟨?_, ?_⟩⟩
                · rw [← List.append_assoc]; exact HS.out
                · rw [HI.out.2, List.append_assoc]; rfl
              case measure => (simp [intOf]; try omega)
            | zero =>
              have hq' : ¬ 0 ≤ q := by omega
              have hfin : bj ++ [3] ++ acc = bj ++ [3] ++ beB x 4 := by rw [HI.out.2]; simp [beB]
              rw [hfin] at HS
              clear hfin hq hk HI
              go_wp2_with (first | ((with_reducible refine gate_dst (N := 83) rfl ?_); at_builtin; refine app_new rfl (.tmp 81) (.tmp 82) 22 5 (.int .u8 0) 1 1 rfl Try.underlying22 info5b rfl (by decide) rfl HS.out.own _ 1 rfl rfl (fun u hu => by simp at hu; subst hu; rfl) (by have := HLN.out; simp only [List.length_append, List.length_cons, List.length_nil, beB_len]; omega) (by have := HLN.out; simp only [List.length_append, List.length_cons, List.length_nil, beB_len]; omega) HS.out.bel.size ?_; intro v' w3 ho hg; have n_ := Aside0.mk (HS.out.app (xs := [5]) ho hg rfl); clear ho hg HS; have HS := n_; clear n_))
              go_loopw [6, 12] (fun v6 v12 wr => ∃ (q : Int) (k : Nat) (acc : List Int), k ≤ 8 ∧ q = (k : Int) - 1 ∧ v12 = .int .i64 q ∧ Aside0 (BW W wr v6 (bj ++ [3] ++ beB x 4 ++ [5] ++ acc) ∧ beB x 8 = acc ++ beB x k)) (fun _ v12 _ => (intOf v12 + 1).toNat)
              case atStart => exact ⟨7, 8, [], Nat.le_refl _, by omega, rfl, ⟨by simpa using HS.out, rfl⟩⟩
              case round =>
                clear HS
                obtain ⟨q, k, acc, hk, hq, rfl, HI⟩ := hrel
                have HS := Aside0.mk HI.out.1
                cases k with
                | succ k =>
                  have hq' : 0 ≤ q := by omega
                  have hacc : (acc.length : Int) = 7 - k := by
                    have := congrArg List.length HI.out.2
                    rw [List.length_append, beB_len, beB_len] at this
                    omega
                  obtain rfl : q = (k : Int) := by omega
                  have HLN2 : Aside0 (((bj ++ [3] ++ beB x 4 ++ [5] ++ acc).length : Int) ≤ 2 + 1003 * 1000 + 14 * 1000 + 20) := ⟨by
                    simp only [List.length_append, List.length_cons, List.length_nil, beB_len]
                    have := HLN.out
                    omega⟩
                  clear hacc hq
                  go_wp2_with (first | ((with_reducible refine gate_dst (N := 95) rfl ?_); at_builtin; refine app_new rfl (.tmp 88) (.tmp 94) 22 5 (.int .u8 0) 1 1 rfl Try.underlying22 info5b rfl (by decide) rfl HS.out.own _ 1 rfl rfl (fun u hu => by simp at hu; subst hu; rfl) (by have := HLN2.out; omega) (by have := HLN2.out; omega) HS.out.bel.size ?_; intro v' w3 ho hg; have n_ := Aside0.mk (HS.out.app (xs := [x / 2 ^ (8 * k) % 256]) ho hg rfl); clear ho hg HS; have HS := n_; clear n_))
                  go_roundw
                  case rel =>
                    refine ⟨(k : Int) - 1, k, acc ++ [x / 2 ^ (8 * k) % 256], by omega, rfl, by go_num, ⟨?_, ?_⟩⟩
                    · rw [← List.append_assoc]; exact HS.out
                    · rw [HI.out.2, List.append_assoc]; rfl
                  case measure => (simp [intOf]; try omega)
                | zero =>
                  have hq' : ¬ 0 ≤ q := by omega
                  have hfin : bj ++ [3] ++ beB x 4 ++ [5] ++ acc = bj ++ [3] ++ beB x 4 ++ [5] ++ beB x 8 := by rw [HI.out.2]; simp [beB]
                  rw [hfin] at HS
                  clear hfin hq hk HI
                  go_wp2_with fail
                  go_roundw
                  case rel =>
                    refine ⟨j + 1, by omega, by go_num, ⟨?_⟩⟩
                    have h3 := HS.out
                    rw [HTK.out, List.flatMap_append, ← List.append_assoc, HBJ.out]
                    simpa [numB] using h3
                  case measure => simp [intOf]; omega
        · have hlj' : ¬ (j : Int) < (ns.length : Int) := by omega
          obtain rfl : j = ns.length := by omega
          rw [List.take_length] at HS
          have hLB : base ++ ns.flatMap numB = laidB ts ns := by
            rw [← HBA.out]
            unfold laidB
            rw [show ((ts.length + 2 * ns.length + 1 : Nat) : Int) = N by omega]
            simp
          rw [hLB] at HS
          have HN : Aside0 (ts.length + 2 * ns.length + 1 ≤ 1000) := ⟨by omega⟩
          have HLL : Aside0 (((laidB ts ns).length : Int) ≤ 2 + 1003 * 1000 + 14 * 1000) := ⟨by rw [← hLB, List.length_append, nums_len]; have := HBL.out; omega⟩
          clear hLB HBA HBL
          generalize hlb : laidB ts ns = lb at *
          have HV : Aside0 (readF validS (lb ++ bytesOf ⟨#[114, 101, 115, 116]⟩) false = (0, laidC ts ns, bytesOf ⟨#[114, 101, 115, 116]⟩, false)) := ⟨by rw [← hlb]; exact laid_read ts ns _ HN.out HSM.out HX.out⟩
          have H8 : Aside0 (∀ x ∈ lb ++ bytesOf ⟨#[114, 101, 115, 116]⟩, 0 ≤ x ∧ x < 256) := ⟨by rw [← hlb]; exact laid_u8 ts ns _ HN.out HSM.out⟩
          have hol : ((laidC ts ns).length : Int) = N := by rw [laidC_len]; omega
          have HT := Aside0.mk (laidC_text ts ns)
          have HM := Aside0.mk (laidC_num ts ns)
          have HZ : Aside0 (rd_T44 (laidC ts ns) 0 = conZ 0) := ⟨rfl⟩
          generalize laidC ts ns = out at *
          clear hlb
          go_wp2_with (first | ((with_reducible refine gate_dst (N := 99) rfl ?_); at_builtin; refine print_append_str (w0 := W) W.heap.size rfl (.tmp 98) _ 22 9 5 rfl Try.underlying22 Try.underlying9 info5b _ _ ⟨#[114, 101, 115, 116]⟩ rfl rfl HS.out.own HS.out.bel HS.out.bel.size (by have := HLL.out; show _ + 4 ≤ _; omega) ?_; intro v2 w4 ho hb hg; obtain ⟨A9, c9, hv9, hc9, hC9⟩ := (HS.out.str ho hg).reads; subst hv9; have HC9 := Aside0.mk hC9; have HB4 := Aside0.mk (HS.out.str ho hg).bel; clear hC9 ho hb hg HS) | (go_at_call 9; (with_reducible refine (from_n (by rw [List.length_append]) HC9.out hc9 H8.out).mono ?_); rintro e w5 ⟨g, rfl, hr, _, _⟩; have HR5 := Aside0.mk hr; clear hr) | (go_at_call 15; go_loud ((with_reducible refine (read_r HR5.out HV.out).mono ?_); rintro e w6 ⟨A6, c6, rfl, ho6, hr, _⟩; have HC6 := Aside0.mk (Kd.R_reads' ho6).2.2; obtain ⟨ad6, rfl, z0, z1, z2, z3, z4⟩ := con_zero HC6.out (by omega) HZ.out; have HB6 := Aside0.mk (below_step HB4.out hr.bel); clear ho6 hr HR5 HC9 HB4 hc9)))
          clear z0 z1 z2 z3 z4 hw1 hw2 hw3 hd0
          go_loopw [121] (fun v121 wr => ∃ (i : Nat), i ≤ ts.length ∧ v121 = .int .i64 i ∧ Aside0 (Below w6.heap.size w6 wr)) (fun v121 _ => ts.length - (intOf v121).toNat)
          case atStart => exact ⟨0, Nat.zero_le _, rfl, ⟨Below.refl _ _⟩⟩
          case round =>
            obtain ⟨i, hi, rfl, HW⟩ := hrel
            by_cases hli : i < ts.length
            · have hli' : (i : Int) < (ts.length : Int) := by omega
              obtain ⟨ad, rfl, hcx⟩ := Kd.at_string (Kd.C_below HR0.out (below_step HB6.out HW.out)) (i : Int) (by omega) hli'
              obtain ⟨ad9, e9, y0, y1, y2, y3, y4⟩ := at_T44 (Kd.C_below HC6.out HW.out) (1 + (i : Int)) (by omega) (by omega)
              injection e9 with e9
              subst e9
              have e1 := HT.out i hli
              have e2 : rdOf ByteArray.empty ts (i : Int) = ts.getD i ByteArray.empty := by unfold rdOf; rw [Int.toNat_natCast]
              rw [e1, show (1 + (i : Int)).toNat = 1 + i by omega] at y0 y1 y2 y3 y4
              rw [e2] at hcx
              generalize ts.getD i ByteArray.empty = s at *
              have hrange : (1 : Int) + (i : Int) < N := by omega
              have hrange2 : (0 : Int) ≤ 1 + (i : Int) := by omega
              rw [Int.toNat_natCast] at hcx
              have wi : wrap64 (1 + (i : Int)) = 1 + (i : Int) := wrap64_in _ (by omega)
              clear e1 e2
              dsimp only [conT] at y0 y1 y2 y3 y4
              go_wp2_with fail
              go_roundw
              case rel => exact ⟨i + 1, by omega, by go_num, HW⟩
              case measure => (simp [intOf]; try omega)
            · have hli' : ¬ (i : Int) < (ts.length : Int) := by omega
              clear hli hi
              go_wp2_with fail
              go_loopw [137] (fun v137 wr => ∃ (j : Nat), j ≤ ns.length ∧ v137 = .int .i64 j ∧ Aside0 (Below w6.heap.size w6 wr)) (fun v137 _ => ns.length - (intOf v137).toNat)
              case atStart => exact ⟨0, Nat.zero_le _, rfl, HW⟩
              case round =>
                clear HW
                obtain ⟨j, hj, rfl, HW⟩ := hrel
                by_cases hlj : j < ns.length
                · have hlj2 : (j : Int) < (ns.length : Int) := by omega
                  obtain ⟨ad, rfl, hcx⟩ := Kd.at_int (Kd.C_below HR1.out (below_step HB6.out HW.out)) (j : Int) (by omega) hlj2
                  obtain ⟨ad9, e9, y0, y1, y2, y3, y4⟩ := at_T44 (Kd.C_below HC6.out HW.out) (1 + (ts.length : Int) + 2 * (j : Int)) (by omega) (by omega)
                  obtain ⟨ad8, e8, x0, x1, x2, x3, x4⟩ := at_T44 (Kd.C_below HC6.out HW.out) (1 + (ts.length : Int) + 2 * (j : Int) + 1) (by omega) (by omega)
                  injection e9 with e9
                  subst e9
                  injection e8 with e8
                  subst e8
                  obtain ⟨e1, e3⟩ := HM.out j hlj
                  have e2 : rd ns (j : Int) = ns.getD j 0 := by unfold rd; rw [Int.toNat_natCast]
                  rw [e1, show (1 + (ts.length : Int) + 2 * (j : Int)).toNat = 1 + ts.length + 2 * j by omega] at y0 y1 y2 y3 y4
                  rw [e3, show (1 + (ts.length : Int) + 2 * (j : Int) + 1).toNat = 1 + ts.length + 2 * j + 1 by omega] at x0 x1 x2 x3 x4
                  rw [e2, Int.toNat_natCast] at hcx
                  generalize ns.getD j 0 = x at *
                  have r1 : (1 : Int) + (ts.length : Int) + 2 * (j : Int) < N := by omega
                  have r3 : (1 : Int) + (ts.length : Int) + 2 * (j : Int) + 1 < N := by omega
                  clear e1 e2 e3 hN
                  dsimp only [conI, conL] at y0 y1 y2 y3 y4 x0 x1 x2 x3 x4
                  go_wp2_with fail
                  go_roundw
                  case rel => exact ⟨j + 1, by omega, by go_num, HW⟩
                  case measure => (simp [intOf]; try omega)
                · have hlj2 : ¬ (j : Int) < (ns.length : Int) := by omega
                  go_wp2_with fail
                  (try go_ret)
                  exact ⟨rfl, below_step HB6.out HW.out⟩
theorem wf_i64 {x : Int} (h : (Lit.int .i64 x).wf = true) : -9223372036854775808 ≤ x ∧ x ≤ 9223372036854775807 := by
  simp only [Lit.wf, IntKind.min, IntKind.max, IntKind.signed, IntKind.bits, Bool.and_eq_true, decide_eq_true_eq] at h
  simp at h
  omega
theorem poolTexts_walk (a0 : Option Addr) (cap0 : Nat) (l0 : List ByteArray) (a1 : Option Addr) (len1 cap1 : Nat) (z1 : List Int) (w : World)
    (hr0 : Kd.C Kd.string w a0 l0.length l0) (hc0 : l0.length ≤ cap0) (y0 : l0.length * 16 ≤ 140737488351232)
    (w1 : (a1 = none ∧ len1 = 0 ∧ cap1 = 0 ∧ z1 = []) ∨ ∃ x, a1 = some x ∧ len1 ≤ cap1 ∧ cap1 ≤ maxLen ∧ z1.length = cap1 ∧ (∀ i, i < z1.length → w.cell? (x.add i) = some (.int .i64 (z1.getD i 0))) ∧ ∀ n ∈ z1, (Lit.int .i64 n).wf = true) (y1 : len1 * 8 ≤ 140737488351232) :
    Calls Try.prog 4 #[.slice a0 l0.length cap0, .slice a1 len1 cap1] w fun e w' => e = .returned (.bool true) ∧ Below w.heap.size w w' := by
  obtain ⟨l1, rfl, hr1, hm1, hw1, hc1⟩ := ReadsInt.ofRowC w1
  exact texts_x a0 cap0 l0 a1 cap1 l1 w hr0 hc0 y0 (Kd.C_of_reads (d := (0 : Int)) (h1 := fun _ => rfl) hr1) hc1 y1 (fun x hx => wf_i64 (hw1 x hx))
end Go.Proofs.Ytedmhopginmjaaa.PAll
end
