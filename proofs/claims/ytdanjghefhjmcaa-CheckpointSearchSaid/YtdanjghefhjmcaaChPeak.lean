/-
  Peak (chapter 28, the program's side).
-/
import Derived.Test.YtdanjghefhjmcaaChPlan
import Derived.Maps.Own
import Derived.Maps.OwnOps
import Derived.Maps.OwnSet
import Derived.Maps.Views
namespace Go.Proofs.Ytdanjghefhjmcaa
open Go.ChangeShapes Go.WideShapes Go.ChangeAt Go.RowKit
set_option linter.unusedVariables false

def tru : DataW Unit := .lit (.bool true)
def stored (l : List Actn) : List Int := (l.filter (fun a => a.1 == 2)).map (·.2.2)
def keysI (l : List Int) : List Lit := l.map (Lit.int .i64)
def peakP (l : List Actn) : Nat := Maps.size (Maps.setOf tru (keysI (stored l)))

theorem stored_snoc (l : List Actn) (a : Actn) : stored (l ++ [a]) = if a.1 = 2 then stored l ++ [a.2.2] else stored l := by
  unfold stored
  rw [List.filter_append]
  by_cases h : a.1 = 2 <;> simp [h]

theorem lawI : Maps.Keyed Try.prog 3 := Maps.int_keyed Try.underlying3

set_option maxHeartbeats 1000000 in
set_option maxRecDepth 100000 in
theorem chk_Peak (v : Value) (l : List Actn) (w : World) (hv : IsActs w v l) (hwf : ∀ a ∈ l, (Lit.int .i64 a.2.2).wf = true) (hlen : l.length ≤ 65536) :
    Calls Try.prog 18 #[v] w fun e w' => e = .returned (.int .i64 (peakP l)) ∧ Up w w' := by
  have hmm := @run_makeMap Try.prog
  obtain ⟨⟨a, cap, rfl, h0, hc⟩, hmax⟩ := hv
  obtain ⟨len, hl⟩ : ∃ k, l.length = k := ⟨_, rfl⟩
  rw [hl] at hc hmax h0 hlen
  have HL := Lib.hid hl
  rw [hl]
  clear hl
  have hl2 : (len : Int) ≤ 65536 := by omega
  have HC := Lib.hid hc
  have H0 := Lib.hid h0
  have HW := Lib.hid hwf
  clear hc h0 hwf
  go_enter Try.func18, Try.ntmps18
  go_wp2
  go_loopw [9] (fun i wr => ∃ (k m : Nat), k ≤ len ∧ m ≤ k ∧ i = .int .i64 k ∧ wr.ownsMap Try.prog 3 (plainElem Try.prog 4) w.heap.size m (Maps.setOf tru (keysI (stored (l.take k)))) ∧ Up w wr) (fun i _ => len - (intOf i).toNat)
  case atStart => exact ⟨0, 0, by omega, by omega, rfl, World.ownsMap_made _ _ _ _, (Up.refl _).alloc _⟩
  case round =>
    rename_i wr
    obtain ⟨k, m, hk, hmk, rfl, hown, hU⟩ := hrel
    by_cases hlt : k < len
    · obtain ⟨x, rfl⟩ : ∃ x, a = some x := by
        cases a with
        | none => exact absurd (H0.out rfl) (by omega)
        | some x => exact ⟨x, rfl⟩
      obtain ⟨g1, g2, g3⟩ := HC.out x rfl (by omega)
      obtain ⟨bl, off, sp⟩ := x
      have g1' : sp = none := g1
      subst g1'
      have hkl2 : k < l.length := by rw [HL.out]; exact hlt
      obtain ⟨op, at', sl, ha⟩ : ∃ op at' sl, l[k] = (op, at', sl) := ⟨_, _, _, rfl⟩
      have hgd : l.getD k (0, 0, 0) = (op, at', sl) := by rw [List.getD_eq_getElem?_getD, List.getElem?_eq_getElem hkl2]; exact ha
      have k0 : wr.cell? ⟨bl, off + k * 3, none⟩ = some (.int .i64 op) := by
        rw [hU.cell _ _ g2]; have := g3 k 0 hlt (by omega); simpa only [actF, hgd, Nat.add_zero] using this
      have k1 : wr.cell? ⟨bl, off + k * 3 + 1, none⟩ = some (.int .i64 at') := by
        rw [hU.cell _ _ g2]; have := g3 k 1 hlt (by omega); simpa only [actF, hgd, Nat.add_zero] using this
      have k2 : wr.cell? ⟨bl, off + k * 3 + 2, none⟩ = some (.int .i64 sl) := by
        rw [hU.cell _ _ g2]; have := g3 k 2 hlt (by omega); simpa only [actF, hgd, Nat.add_zero] using this
      have hwfk : (Lit.int .i64 sl).wf = true := by have := HW.out _ (List.getElem_mem hkl2); rw [ha] at this; exact this
      have htk : stored (l.take (k + 1)) = if op = 2 then stored (l.take k) ++ [sl] else stored (l.take k) := by
        rw [List.take_succ_eq_append_getElem hkl2, ha, stored_snoc]
      have HT := Lib.hid htk
      clear g3 ha hgd htk
      have hkl : (k : Int) < (len : Int) := by omega
      have hk0 : (0 : Int) ≤ (k : Int) := by omega
      by_cases h2 : op = 2
      · subst h2
        have hkey : keyOf Try.prog 3 (.int .i64 sl) = some (.int .i64 sl) := Maps.keyOf_int_mk Try.underlying3 hwfk
        have hm65 : m ≤ 65536 := by omega
        go_wp2_with (at_mapUpdate; refine wpList_mapUpdate_own _ rfl _ _ _ 56 rfl 3 4 lawI Try.underlying56 _ w.heap.size m _ rfl (hown.alloc _) (by unfold maxLen; omega) _ _ _ rfl rfl hkey _ [] (plainElem_bool Try.underlying4 true) ?_; intro w1 hown1 hgrow1)
        go_roundw
        case rel =>
          refine ⟨k + 1, m + 1, by omega, by omega, by go_num, ?_, Below.grown (hU.alloc _) hgrow1 (hU.alloc _).size (fun j hj => by cases hj; exact Nat.le_refl _)⟩
          rw [HT.out, if_pos (by trivial), keysI, List.map_append, List.map_cons, List.map_nil, Maps.setOf_snoc]
          exact hown1
        case measure => simp [intOf]; omega
      · have h3 : (op == 2) = false := by simpa using h2
        go_wp2
        go_roundw
        case rel =>
          refine ⟨k + 1, m, by omega, by omega, by go_num, ?_, hU.alloc _⟩
          rw [HT.out, if_neg h2]
          exact hown.alloc _
        case measure => simp [intOf]; omega
    · have hkl : (len : Int) ≤ (k : Int) := by omega
      have hkk : k = len := by omega
      have htk : l.take k = l := List.take_of_length_le (by rw [HL.out]; omega)
      rw [htk] at hown
      clear htk
      go_wp2_with (at_len; refine wpList_len_own _ rfl _ 56 rfl 3 4 Try.underlying56 _ w.heap.size m _ rfl hown ?_)
      go_ret
      exact ⟨rfl, hU⟩
end Go.Proofs.Ytdanjghefhjmcaa
