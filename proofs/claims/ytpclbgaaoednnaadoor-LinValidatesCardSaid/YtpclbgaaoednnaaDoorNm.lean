/-
  Names: the keywords and the identifiers, as plain functions over the bytes; and reserved of the program's side.
-/
import Derived.Test.YtpclbgaaoednnaaDoorRows
import Derived.Test.YtpclbgaaoednnaaDoorB
import Derived.Laws.Strings
import Derived.Laws.Cover1
import Derived.Lib.Strings
namespace Go.Proofs.YtpclbgaaoednnaaDoor
set_option linter.unusedSimpArgs false
open Go.ChangeShapes Go.WideShapes Go.ChangeAt Go.RowKit
set_option linter.unusedVariables false

def words : List (List UInt8) := [[115, 105, 122, 101], [119, 104, 101, 114, 101], [105, 110], [100, 101, 102], [111, 117, 116], [115, 117, 109], [112, 114, 111, 100], [109, 105, 110], [109, 97, 120], [115, 99, 97, 110], [111, 118, 101, 114], [105, 102], [99, 97, 115, 116], [102, 114, 97, 99], [105, 110, 116], [102, 105, 120], [99, 101, 105, 108], [102, 108, 111, 111, 114], [122, 101, 114, 111], [101, 118, 101, 110], [115, 97, 116], [119, 114, 97, 112]]
def wordB (s : List UInt8) : Bool := words.contains s
def fstOk (s : List UInt8) : Bool := decide (97 ≤ (s.getD 0 0).toNat) && decide ((s.getD 0 0).toNat ≤ 122)
def okC (c : UInt8) : Bool := (decide (97 ≤ c.toNat) && decide (c.toNat ≤ 122)) || (decide (48 ≤ c.toNat) && decide (c.toNat ≤ 57)) || decide (c.toNat = 95)
def nameB (s : List UInt8) : Bool := decide (1 ≤ s.length) && decide (s.length ≤ 16) && !wordB s && fstOk s && s.all okC

theorem run_byte {P : Program} (w : World) (t : TypeId) (s : ByteArray) (k c : Nat) (h : P.underlying t = some .string) (hk : k < s.size) (hc : (s.data.toList.getD k 0).toNat = c) :
    (Instr.index t (.string s) (.int .i64 (k : Int))).run P w = .ok (.int .u8 (c : Int)) w := by
  rw [run_index_string w t s _ _ h, dif_pos ⟨by omega, by omega⟩]
  congr 2
  rw [← hc]
  have hl : k < s.data.toList.length := by rw [← Lib.size_eq]; exact hk
  rw [List.getD_eq_getElem?_getD, List.getElem?_eq_getElem hl]
  show (((s[((k : Int)).toNat]'(_)).toNat : Nat) : Int) = _
  simp only [Int.toNat_natCast]
  rfl

set_option maxHeartbeats 2000000 in
theorem lin_reserved (s : ByteArray) (w : World) :
    Calls Tryd.prog 29 #[.string s] w fun e w' => e = .returned (.bool (wordB s.toList)) ∧ w' = w := by
  obtain ⟨l, hl⟩ : ∃ l, s.toList = l := ⟨_, rfl⟩
  rw [hl]
  go_enter Tryd.func29, Tryd.ntmps29
  go_wp2
  all_goals (go_ret; refine ⟨ret_bool ?_, rfl⟩; simp_all [wordB, words])
end Go.Proofs.YtpclbgaaoednnaaDoor

