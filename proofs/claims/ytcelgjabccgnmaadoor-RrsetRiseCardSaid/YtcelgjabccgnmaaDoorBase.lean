/-
  Small plain facts for the walks: strings as lists of bytes, and rules by which the walk speaks of them. Nothing is claimed here.
-/
import Derived.Test.YtcelgjabccgnmaaDoorProg
import Derived.WalkKit
import Derived.WalkSpells
import Derived.WalkLawsBesides
import Derived.BigQuiet
import Derived.Deep.QuietTactic
import Derived.Handy
import Derived.Lib.Hide
namespace Go.Proofs.YtcelgjabccgnmaaDoor
open Go.RowKit

/-- The string of a list of bytes. -/
def mk (l : List UInt8) : ByteArray := ⟨l.toArray⟩

theorem mk_eta (s : ByteArray) : s = mk s.data.toList := rfl

@[simp, go_sem] theorem size_mk (l : List UInt8) : (mk l).size = l.length := rfl
theorem data_mk (l : List UInt8) : (mk l).data.toList = l := rfl
theorem byteArray_toList (s : ByteArray) : s.toList = s.data.toList := ByteArray.toList_eq s
@[simp, go_sem] theorem toList_mk (l : List UInt8) : (mk l).toList = l := by rw [byteArray_toList]; rfl
@[simp, go_sem] theorem getElem_mk (l : List UInt8) (i : Nat) (h : i < (mk l).size) : (mk l)[i]'h = l[i]'h := rfl
@[simp, go_sem] theorem fold_mk (l : List UInt8) : (ByteArray.mk l.toArray) = mk l := rfl
@[simp, go_sem] theorem extract_mk (l : List UInt8) (a b : Nat) : (mk l).extract a b = mk ((l.take b).drop a) := by
  apply ByteArray.ext
  apply Array.ext'
  show ((mk l).extract a b).data.toList = _
  rw [ByteArray.data_extract, Array.toList_extract]
  simp only [List.extract_eq_take_drop, mk]
  rw [List.drop_take]
@[simp, go_sem] theorem append_mk (a b : List UInt8) : mk a ++ mk b = mk (a ++ b) := ByteArray.ext (by rw [ByteArray.data_append]; show a.toArray ++ b.toArray = (a ++ b).toArray; simp only [List.append_toArray])
theorem mk_inj {a b : List UInt8} : mk a = mk b ↔ a = b := by
  constructor
  · intro h; exact congrArg (fun s : ByteArray => s.data.toList) h
  · rintro rfl; rfl
end Go.Proofs.YtcelgjabccgnmaaDoor
