/-
  Byte strings as lists of bytes: what size, extract, bt, append and toList are there.
-/
import Derived.Test.YtedmhopginmjaaaPAllx0
namespace Go.Proofs.Ytedmhopginmjaaa.PAll
open Go.RowKit Go.Proofs.YtedmhopginmjaaaW.PrintWords

/-- The byte string of a list of bytes. -/
def ba (l : List UInt8) : ByteArray := ⟨l.toArray⟩
theorem ba_ex (s : ByteArray) : ∃ l, s = ba l := ⟨s.data.toList, by cases s; rfl⟩
theorem ba_inj {a b : List UInt8} (h : ba a = ba b) : a = b := by
  have := congrArg (fun s : ByteArray => s.data.toList) h
  simpa [ba] using this
theorem ba_size (l : List UInt8) : (ba l).size = l.length := rfl
theorem ba_data (l : List UInt8) : (ba l).data.toList = l := rfl
theorem ba_lit (l : List UInt8) : (⟨l.toArray⟩ : ByteArray) = ba l := rfl
theorem ba_ext {a b : ByteArray} (h : a.data.toList = b.data.toList) : a = b := by
  cases a; cases b; simp at h; simp [h]
theorem ba_extract (l : List UInt8) (i j : Nat) : (ba l).extract i j = ba ((l.take j).drop i) := by
  apply ba_ext
  simp [ba, ByteArray.data_extract, List.drop_take]
theorem ba_append (a b : List UInt8) : ba a ++ ba b = ba (a ++ b) := by
  apply ba_ext
  simp [ba, ByteArray.data_append]
theorem ba_bt (l : List UInt8) (i : Nat) (h : i < l.length) : bt (ba l) (i : Int) = ((l[i]).toNat : Int) := by
  unfold bt
  have hs : ((i : Int)).toNat < (ba l).size := by simpa [ba_size] using h
  rw [dif_pos hs]
  simp [ba, ByteArray.getElem_eq_getElem_data]
theorem toList_data (s : ByteArray) : s.toList = s.data.toList := by
  exact ByteArray.toList_eq s
theorem ba_toList (l : List UInt8) : (ba l).toList = l := by rw [toList_data]; rfl

end Go.Proofs.Ytedmhopginmjaaa.PAll
