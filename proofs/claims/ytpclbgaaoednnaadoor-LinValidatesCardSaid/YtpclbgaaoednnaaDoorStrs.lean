/-
  Slices of strings; Has, Words and Name of the base package.
-/
import Derived.Test.YtpclbgaaoednnaaDoorSl
import Derived.Test.YtpclbgaaoednnaaDoorNm2
namespace Go.Proofs.YtpclbgaaoednnaaDoor
set_option linter.unusedSimpArgs false
open Go.ChangeShapes Go.WideShapes Go.ChangeAt Go.RowKit
set_option linter.unusedVariables false

theorem SlAt.new (w : World) (t : TypeId) (cs : Array Value) (n k : Nat) (f : Nat → Nat → Value) (hn : n ≤ 9223372036854775807) (h : ∀ i j, i < n → j < k → cs[i * k + j]? = some (f i j)) :
    SlAt (w.alloc (.cells cs t)) (.slice (some ⟨w.heap.size, 0, none⟩) n n) n k f :=
  ⟨⟨some ⟨w.heap.size, 0, none⟩, n, rfl, (fun e => nomatch e), fun x hx _ => by
    cases hx
    refine ⟨rfl, by simp, fun i j hi hj => ?_⟩
    rw [cell_of_row _ _ _ _ _ _ (heap_alloc_new w _)]
    simp only [Nat.zero_add]
    exact h i j hi hj⟩, hn⟩

def strF (l : List ByteArray) (i _j : Nat) : Value := .string (l.getD i ⟨#[]⟩)
def StrsAt (w : World) (v : Value) (l : List ByteArray) : Prop := SlAt w v l.length 1 (strF l)

def hasB (l : List ByteArray) (s : List UInt8) : Bool := l.any fun x => x.toList == s

set_option maxHeartbeats 1000000 in
theorem base_Has (s : ByteArray) (l : List ByteArray) (v : Value) (w : World) (hv : StrsAt w v l) :
    Calls Tryd.prog 33 #[v, .string s] w fun e w' => e = .returned (.bool (hasB l s.toList)) ∧ w' = w := by
  obtain ⟨⟨a, cap, rfl, h0, hc⟩, hmax⟩ := hv
  obtain ⟨r, hr⟩ : ∃ r, hasB l s.toList = r := ⟨_, rfl⟩
  rw [hr]
  obtain ⟨sl, hsl⟩ : ∃ q, s.toList = q := ⟨_, rfl⟩
  rw [hsl] at hr
  obtain ⟨n, hn⟩ : ∃ n, l.length = n := ⟨_, rfl⟩
  rw [hn] at h0 hc hmax ⊢
  have HN := Lib.hid hn
  have HR := Lib.hid hr
  have HC := Lib.hid hc
  have H0 := Lib.hid h0
  clear hr hn hc h0
  go_enter Tryd.func33, Tryd.ntmps33
  go_wp2
  go_loopw [5] (fun i wr => ∃ k : Nat, k ≤ n ∧ i = .int .i64 k ∧ wr = w ∧ hasB (l.drop k) sl = r) (fun i _ => n - (intOf i).toNat)
  case atStart => exact ⟨0, by omega, rfl, rfl, by rw [List.drop_zero]; exact HR.out⟩
  case round =>
    obtain ⟨k, hk, rfl, hw, hP⟩ := hrel
    replace hw := hw.symm
    subst hw
    have HP := Lib.hid hP
    clear hP
    by_cases hlt : k < n
    · have hlt2 : (k : Int) < (n : Int) := by omega
      have hk0 : (0 : Int) ≤ (k : Int) := by omega
      obtain ⟨x, rfl⟩ : ∃ x, a = some x := by
        cases a with
        | none => exact absurd (H0.out rfl) (by omega)
        | some x => exact ⟨x, rfl⟩
      obtain ⟨g1, g2, g3⟩ := HC.out x rfl (by omega)
      obtain ⟨bl, off, sp⟩ := x
      have g1' : sp = none := g1
      subst g1'
      obtain ⟨u, hu⟩ : ∃ u, l.getD k ⟨#[]⟩ = u := ⟨_, rfl⟩
      have k0 : w.cell? ⟨bl, off + k, none⟩ = some (.string u) := by
        have := g3 k 0 hlt (by omega)
        simpa only [strF, hu, Nat.add_zero, Nat.mul_one] using this
      clear g3
      have hdrop : l.drop k = u :: l.drop (k + 1) := by
        have hkl : k < l.length := by rw [HN.out]; exact hlt
        rw [List.drop_eq_getElem_cons hkl, ← hu, List.getD_eq_getElem?_getD, List.getElem?_eq_getElem hkl]; rfl
      obtain ⟨q, hq⟩ : ∃ q, (u.toList == sl) = q := ⟨_, rfl⟩
      have HP2 : Hid ((q || hasB (l.drop (k + 1)) sl) = r) := Lib.hid (by rw [← HP.out, hdrop]; simp only [hasB, List.any_cons, hq])
      clear hdrop hu
      cases q
      · have hq2 : ¬ u.toList = sl := by simpa using hq
        go_wp2
        go_roundw
        case rel => exact ⟨k + 1, by omega, by go_num, by trivial, by have := HP2.out; rw [← this]; rfl⟩
        case measure => simp [intOf]; omega
      · have hq2 : u.toList = sl := by simpa using hq
        go_wp2
        go_ret
        refine ⟨ret_bool ?_, rfl⟩
        have := HP2.out; rw [← this]; rfl
    · have hlt2 : (n : Int) ≤ (k : Int) := by omega
      go_wp2
      go_ret
      refine ⟨ret_bool ?_, rfl⟩
      rw [← HP.out, List.drop_eq_nil_of_le (by rw [HN.out]; omega)]
      rfl

def wordsS : List ByteArray := words.map fun l => ⟨l.toArray⟩
theorem beq_swap (a b : List UInt8) : (a == b) = (b == a) := Bool.eq_iff_iff.2 (by rw [beq_iff_eq, beq_iff_eq]; exact eq_comm)
theorem words_has (s : List UInt8) : hasB wordsS s = wordB s := by
  unfold hasB wordsS wordB
  rw [List.any_map, List.contains_eq_any_beq]
  congr 1
  funext l
  show ((⟨l.toArray⟩ : ByteArray).toList == s) = (s == l)
  rw [ByteArray.toList_mk, beq_swap]

set_option maxHeartbeats 1000000 in
theorem base_Words (w : World) :
    Calls Tryd.prog 34 #[] w fun e w' => ∃ v, e = .returned v ∧ StrsAt w' v wordsS ∧ Up w w' := by
  go_enter Tryd.func34, Tryd.ntmps34
  go_wp2
  go_ret
  refine ⟨_, rfl, ?_, (Up.refl _).alloc _⟩
  refine SlAt.new w _ _ 22 1 (strF wordsS) (by decide) fun i j hi hj => ?_
  obtain rfl : j = 0 := by omega
  rcases (by omega : i = 0 ∨ i = 1 ∨ i = 2 ∨ i = 3 ∨ i = 4 ∨ i = 5 ∨ i = 6 ∨ i = 7 ∨ i = 8 ∨ i = 9 ∨ i = 10 ∨ i = 11 ∨ i = 12 ∨ i = 13 ∨ i = 14 ∨ i = 15 ∨ i = 16 ∨ i = 17 ∨ i = 18 ∨ i = 19 ∨ i = 20 ∨ i = 21) with rfl | rfl | rfl | rfl | rfl | rfl | rfl | rfl | rfl | rfl | rfl | rfl | rfl | rfl | rfl | rfl | rfl | rfl | rfl | rfl | rfl | rfl <;> rfl
end Go.Proofs.YtpclbgaaoednnaaDoor

