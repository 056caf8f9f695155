/-
  IsaParse: the walk of the law.
-/
import Derived.Test.YtlglfdhiopnglaaGreatDoorIsEx
import Derived.Test.YtlglfdhiopnglaaGreatDoorIsPr
import Derived.Test.YtlglfdhiopnglaaGreatDoorPeOi
namespace Go.Proofs.YtlglfdhiopnglaaGreatDoor.isaParse
open Go.ChangeShapes Go.WideShapes Go.ChangeAt Go.RowKit
set_option linter.unusedVariables false
set_option linter.unusedSimpArgs false
set_option maxRecDepth 100000

theorem parseF_rd (S : List UInt8) : parseF rdL S = parseF riF S := by
  unfold parseF
  rw [prsG_congr rd_ri]
theorem prsG_len (rd : List UInt8 → Ins × Bool) : ∀ (ls : List (List UInt8)) (rest : List UInt8) (at' : Int) (acc : List Ins), (prsG rd ls rest at' acc).1.length ≤ acc.length + ls.length
  | [], rest, at', acc => by
    unfold prsG
    split <;> simp
  | l :: ls, rest, at', acc => by
    unfold prsG
    split
    · have := prsG_len rd ls rest (at' + 1) (acc ++ [(rd l).1])
      rw [List.length_append] at this
      simp only [List.length_cons, List.length_nil] at this ⊢
      omega
    · simp
theorem lnF_len : ∀ S : List UInt8, (lnF S).1.length ≤ S.length
  | [] => by simp [lnF]
  | b :: l => by
    have ih := lnF_len l
    unfold lnF
    split
    · simp only [List.length_cons]; omega
    · split
      · simp
      · rename_i p q e
        rw [e] at ih
        simp only [List.length_cons] at ih ⊢
        omega
theorem parseF_len (S : List UInt8) : (parseF rdL S).1.length ≤ S.length := by
  unfold parseF
  split
  · simp
  · have := prsG_len rdL (lnF S).1 (lnF S).2 0 []
    have := lnF_len S
    simp only [List.length_nil] at *
    omega

set_option maxHeartbeats 8000000 in
theorem walk (W : World) {s : ByteArray} (w0 : s.size ≤ maxLen) (hF : RdW W ∧ FTab W ∧ ITab W ∧ WTab W) :
    Calls Tryz.prog 5 #[.string s] W fun e w' => e = .returned (.bool true) ∧ Up W w' := by
  obtain ⟨hR, hFt, hI, hW⟩ := hF
  have HEX := Lib.hid (fun x (hx : Up W x) => law_examples x (hR.up hx) (hFt.up hx) (hI.up hx) (hW.up hx))
  obtain ⟨m, hm⟩ : ∃ m, s.size = m := ⟨_, rfl⟩
  have hsl : s.toList.length = m := by rw [Lib.toList_data, ← hm]; rfl
  have HPS := Lib.hid (fun (ht : s.size ≤ 1000000) x (hx : Up W x) => isa_Parse s ht x (hR.up hx) (hFt.up hx) (hI.up hx) (hW.up hx))
  have HPR := Lib.hid (fun (h : s.toList.length ≤ 10000) y => r47_Parse s.toList h y)
  rw [bst_toList] at HPR
  rw [parseP_eq, parseF_rd] at HPS
  have hql := parseF_len s.toList
  rw [parseF_rd, hsl] at hql
  obtain ⟨q, hq⟩ : ∃ q, parseF riF s.toList = q := ⟨_, rfl⟩
  rw [hq] at HPS HPR hql
  obtain ⟨qo, qa, qe⟩ := q
  dsimp only at HPS HPR hql
  rw [hsl] at HPR
  rw [hm] at HPS
  have HM := Lib.hid hm
  have HQL := Lib.hid hql
  have hsz : ((Value.string s).cells.size) = 1 := rfl
  clear hq hR hFt hI hW hm hsl hql w0 hsz
  go_enter Tryz.func5, Tryz.ntmps5
  by_cases h1 : 4000 < m
  · have h1I : (4000 : Int) < (s.size : Int) := by rw [HM.out]; omega
    go_wp2_with (go_at_call 9; refine (HEX.out _ (Up.refl _)).mono ?_; rintro e ze ⟨rfl, hze⟩)
    go_ret
    exact ⟨rfl, hze⟩
  · have h1I : ¬ (4000 : Int) < (s.size : Int) := by rw [HM.out]; omega
    have HP1 := Lib.hid (HPS.out (by omega))
    have HP2 := Lib.hid (HPR.out (by omega))
    have HSM : Hid (∀ x c d, InsAt x c qo → InsAt x d qo → Calls Tryz.prog 18 #[c, d] x fun e w' => e = .returned (.bool true) ∧ Up x w') := Lib.hid (fun x c d hc hd => by
      have := law_same c d qo qo x hc hd (by have := HQL.out; omega) (by have := HQL.out; omega)
      rw [decide_eq_true (rfl : qo = qo)] at this
      exact this)
    clear HPS HPR HQL h1
    go_wp2_with (first
      | (go_at_call 9; refine (HEX.out _ HU4.out).mono ?_; rintro e ze ⟨rfl, hze⟩)
      | (go_at_call 18; refine (HSM.out _ _ _ (HPV.out.up HZ2.out) HPW.out).mono ?_; rintro e z4 ⟨rfl, hz4⟩; have HU4 := Lib.hid (HU3.out.trans hz4); clear hz4)
      | (go_at_call 17; refine (HP2.out _).mono ?_; rintro e z3 ⟨pw, rfl, hz3, hpw⟩; have HU3 := Lib.hid (HU2.out.trans hz3); have HPW := Lib.hid hpw; have HZ2 := Lib.hid hz3; clear hz3 hpw)
      | (go_at_call 16; refine (HP1.out _ (Up.refl _)).mono ?_; rintro e z2 ⟨pv, rfl, hz2, hpv⟩; have HU2 := Lib.hid hz2; have HPV := Lib.hid hpv; clear hz2 hpv))
    go_ret
    exact ⟨rfl, HU4.out.trans hze⟩
end Go.Proofs.YtlglfdhiopnglaaGreatDoor.isaParse
