/-
  Joined by a program: IsPl, IsWo, IsWh, IsVl, IsIt.
-/
import Derived.Test.YtlglfdhiopnglaaGreatDoorGh
import Derived.Test.YtlglfdhiopnglaaGreatDoorGe
import Derived.Test.YtlglfdhiopnglaaGreatDoorGd

section
namespace Go.Proofs.YtlglfdhiopnglaaGreatDoor
open Go.ChangeShapes Go.WideShapes Go.ChangeAt Go.RowKit
set_option linter.unusedVariables false
set_option linter.unusedSimpArgs false
set_option maxRecDepth 100000

theorem bst_eq (a b : List UInt8) : ((bst a).toList == (bst b).toList) = decide (a = b) := by
  rw [bst_list, bst_list]
  by_cases h : a = b
  · subst h; simp
  · simp [h]
theorem plcG_drop {L : List (List UInt8)} {s : List UInt8} {j n : Nat} {r : List UInt8} (hn : L.length = n) (hj : j < n) (hr : L.getD j [] = r) (i : Int) : plcG s (L.drop j) i = if r = s then i else plcG s (L.drop (j + 1)) (i + 1) := by
  subst hn
  rw [List.drop_eq_getElem_cons hj]
  have : L[j] = r := by rw [← hr, List.getD_eq_getElem?_getD, List.getElem?_eq_getElem hj]; rfl
  rw [this]; rfl
set_option maxHeartbeats 8000000 in
theorem r47_place (v : Value) (L : List (List UInt8)) (s : List UInt8) (w : World) (hv : StrsAt w v (L.map bst)) (hL : L.length ≤ 100) :
    Calls Tryz.prog 68 #[v, .string (bst s)] w fun e w' => e = .returned (.int .i64 (plcF L s)) ∧ Up w w' := by
  obtain ⟨R, hR⟩ : ∃ R, plcF L s = R := ⟨_, rfl⟩
  rw [hR]
  obtain ⟨n, hn⟩ : ∃ n, L.length = n := ⟨_, rfl⟩
  have hm : (L.map bst).length = n := by rw [List.length_map, hn]
  obtain ⟨⟨a, cap, rfl⟩, _⟩ := hv.slice
  rw [hm] at hv ⊢
  rw [hn] at hL
  have hnI : (n : Int) ≤ 100 := by omega
  have HV := Lib.hid hv
  have HN := Lib.hid hn
  have HR : Hid (plcG s (L.drop 0) 0 = R) := Lib.hid (by rw [List.drop_zero]; exact hR)
  have HG : Hid (∀ j, (L.map bst).getD j ⟨#[]⟩ = bst (L.getD j [])) := Lib.hid (fun j => by
    rw [List.getD_eq_getElem?_getD, List.getElem?_map, List.getD_eq_getElem?_getD]
    cases L[j]? <;> rfl)
  clear hv hn hm hR
  obtain ⟨S, hS⟩ : ∃ S, bst s = S := ⟨_, rfl⟩
  have HS := Lib.hid hS
  rw [hS]
  clear hS
  go_enter Tryz.func68, Tryz.ntmps68
  go_wp2
  go_loopw [5] (fun jv wr => ∃ (j : Nat), j ≤ n ∧ jv = .int .i64 j ∧ Up w wr ∧ plcG s (L.drop j) j = R) (fun jv _ => n - (intOf jv).toNat)
  case atStart => exact ⟨0, by omega, rfl, Up.refl _, HR.out⟩
  case round =>
    rename World => wr
    obtain ⟨j, hj, rfl, hup, hp⟩ := hrel
    have HU := Lib.hid hup
    have HP := Lib.hid hp
    clear hup hp
    by_cases hlt : j < n
    · have hltI : (j : Int) < n := by omega
      obtain ⟨g, o, ha, hg, hc⟩ := StrsAt.get (HV.out.up HU.out) rfl j hlt
      subst ha
      rw [HG.out] at hc
      obtain ⟨x, hx⟩ : ∃ x, L.getD j [] = x := ⟨_, rfl⟩
      rw [hx] at hc
      have HD := Lib.hid (plcG_drop (s := s) HN.out hlt hx (j : Int))
      obtain ⟨X, hX⟩ : ∃ X, bst x = X := ⟨_, rfl⟩
      rw [hX] at hc
      obtain ⟨q, hq⟩ : ∃ q, (X.toList == S.toList) = q := ⟨_, rfl⟩
      have HQ : Hid (decide (x = s) = q) := Lib.hid (by rw [← hq, ← hX, ← HS.out, bst_eq])
      clear hx hX
      cases q
      · have HE : Hid (plcG s (L.drop (j + 1)) ((j + 1 : Nat) : Int) = R) := Lib.hid (by
          rw [← HP.out, HD.out, if_neg (by simpa using HQ.out)]; rfl)
        go_wp2
        try go_roundw
        case rel => exact ⟨j + 1, by omega, by go_num, HU.out, HE.out⟩
        case measure => simp [intOf]; omega
      · have HE : Hid (R = (j : Int)) := Lib.hid (by rw [← HP.out, HD.out, if_pos (by simpa using HQ.out)])
        go_wp2
        go_ret
        exact ⟨ret_int (by rw [HE.out]), HU.out⟩
    · obtain rfl : j = n := by omega
      have HE : Hid (R = -1) := Lib.hid (by rw [← HP.out, List.drop_of_length_le (by rw [HN.out]; exact Nat.le_refl _)]; rfl)
      go_wp2
      go_ret
      exact ⟨ret_int (by rw [HE.out]), HU.out⟩
end Go.Proofs.YtlglfdhiopnglaaGreatDoor
end

section
namespace Go.Proofs.YtlglfdhiopnglaaGreatDoor
open Go.ChangeShapes Go.WideShapes Go.ChangeAt Go.RowKit
set_option linter.unusedVariables false
set_option linter.unusedSimpArgs false
set_option maxRecDepth 100000

theorem StrsAt.own {w : World} {B n : Nat} {e : TypeId} {v : Value} {l : List ByteArray} (h : w.ownsRow B e 1 v n (strsV l)) (hl : l.length = n) (hn : n ≤ 9223372036854775807) : StrsAt w v l := by
  subst hl
  exact SlAt.of_own h hn fun i j hi hj => by
    obtain rfl : j = 0 := by omega
    rw [Nat.mul_one, Nat.add_zero]
    unfold strsV strF
    rw [List.getElem?_map, List.getElem?_eq_getElem hi, List.getD_eq_getElem?_getD, List.getElem?_eq_getElem hi]; rfl
/-- A list of texts behind a slice, its capacity known to suffice. -/
def StrsC (w : World) (v : Value) (l : List (List UInt8)) : Prop := ∃ a c, v = .slice a l.length c ∧ l.length ≤ c ∧ StrsAt w v (l.map bst)
theorem StrsC.up {w w' : World} {v : Value} {l : List (List UInt8)} (h : StrsC w v l) (u : Up w w') : StrsC w' v l := let ⟨a, c, h1, h2, h3⟩ := h; ⟨a, c, h1, h2, h3.up u⟩
/-- A text cut at spaces, from the left: what is done, where the piece in hand begins, how far it reaches. -/
def WdAt (S : List UInt8) (O : List (List UInt8)) (st i : Nat) : Prop :=
  (st ≤ i ∧ i ≤ S.length ∧ cutL 32 false S = O ++ cutL 32 false (S.drop st) ∧ (32 : UInt8) ∉ (S.drop st).take (i - st)) ∨ (i = S.length + 1 ∧ cutL 32 false S = O)
theorem WdAt.start (S : List UInt8) : WdAt S [] 0 0 := .inl ⟨by omega, by omega, rfl, by simp⟩
theorem WdAt.next {S : List UInt8} {O : List (List UInt8)} {st i : Nat} (h : WdAt S O st i) (hi : i < S.length) (hb : S.getD i 0 ≠ 32) : WdAt S O st (i + 1) := by
  rcases h with ⟨h1, h2, h3, h4⟩ | ⟨h1, _⟩
  · refine .inl ⟨by omega, by omega, h3, ?_⟩
    rw [show i + 1 - st = (i - st) + 1 by omega, List.take_add_one, List.mem_append]
    rintro (h | h)
    · exact h4 h
    · rw [List.getElem?_drop, show st + (i - st) = i by omega, List.getElem?_eq_getElem hi] at h
      simp only [Option.toList_some, List.mem_singleton] at h
      apply hb
      rw [List.getD_eq_getElem?_getD, List.getElem?_eq_getElem hi, h]; rfl
  · omega
theorem WdAt.cut {S : List UInt8} {O : List (List UInt8)} {st i : Nat} (h : WdAt S O st i) (hi : i < S.length) (hb : S.getD i 0 = 32) : WdAt S (O ++ [(S.drop st).take (i - st)]) (i + 1) (i + 1) := by
  rcases h with ⟨h1, h2, h3, h4⟩ | ⟨h1, _⟩
  · refine .inl ⟨by omega, by omega, ?_, by simp⟩
    have e : S.drop st = (S.drop st).take (i - st) ++ 32 :: S.drop (i + 1) := by
      conv => lhs; rw [← List.take_append_drop (i - st) (S.drop st)]
      rw [List.drop_drop, show st + (i - st) = i by omega, List.drop_eq_getElem_cons hi]
      rw [List.getD_eq_getElem?_getD, List.getElem?_eq_getElem hi] at hb
      simp only [Option.getD_some] at hb
      rw [hb]
    rw [h3, e, cutL_app 32 _ _ h4, ← e, List.append_assoc]; rfl
  · omega
theorem WdAt.last {S : List UInt8} {O : List (List UInt8)} {st : Nat} (h : WdAt S O st S.length) : WdAt S (O ++ [(S.drop st).take (S.length - st)]) (S.length + 1) (S.length + 1) := by
  rcases h with ⟨h1, h2, h3, h4⟩ | ⟨h1, _⟩
  · refine .inr ⟨rfl, ?_⟩
    have e : (S.drop st).take (S.length - st) = S.drop st := List.take_of_length_le (by simp)
    rw [e] at h4 ⊢
    rw [h3, cutL_word 32 _ h4]
  · omega
theorem WdAt.le {S : List UInt8} {O : List (List UInt8)} {st i : Nat} (h : WdAt S O st i) (hi : i ≤ S.length) : st ≤ i := by
  rcases h with ⟨h1, _⟩ | ⟨h1, _⟩
  · exact h1
  · omega

set_option maxHeartbeats 8000000 in
theorem r47_words (S : List UInt8) (hS : S.length ≤ 10000) (w : World) :
    Calls Tryz.prog 67 #[.string (bst S)] w fun e w' => ∃ v, e = .returned v ∧ Up w w' ∧ StrsC w' v (cutL 32 false S) := by
  obtain ⟨j0, hi0, hz0, hz1, hz2⟩ := info_parts string_info
  obtain ⟨n, hn⟩ : ∃ n, S.length = n := ⟨_, rfl⟩
  rw [hn] at hS
  have hz : (bst S).size = n := by simp [bst, ByteArray.size, hn]
  have HN := Lib.hid hn
  have hnI : (n : Int) ≤ 10000 := by omega
  have HIX : Hid (∀ i : Nat, i < n → ∀ w, (Instr.index 9 (.string (bst S)) (.int .i64 (i : Int))).run Tryz.prog w = .ok (.int .u8 ((S.getD i 0).toNat : Int)) w) := Lib.hid (fun i hi w => by
    rw [run_index_string w _ _ _ _ (by kernel_rfl), dif_pos ⟨by omega, by omega⟩]
    have e : ∀ k (h : k < (bst S).size), (bst S)[k]'h = S.getD k 0 := fun k h => by
      have h' : k < S.length := by rw [hn]; omega
      show S.toArray[k] = _
      rw [List.getD_eq_getElem?_getD, List.getElem?_eq_getElem h']; simp
    rw [e]; simp)
  have HSL : Hid (∀ st i : Nat, st ≤ i → i ≤ n → (bst S).extract st i = bst ((S.drop st).take (i - st))) := Lib.hid (fun st i h1 h2 => by
    apply ByteArray.ext
    rw [ByteArray.data_extract]
    show (S.toArray).extract st i = _
    rw [List.extract_toArray, List.extract_eq_take_drop]
    rfl)
  clear hn
  obtain ⟨B, hB⟩ : ∃ B, bst S = B := ⟨_, rfl⟩
  rw [hB] at HIX HSL hz ⊢
  have HZ := Lib.hid hz
  clear hz hB
  go_enter Tryz.func67, Tryz.ntmps67
  go_wp2
  go_loopw [3, 4, 5] (fun ov sv iv wr => ∃ (O : List (List UInt8)) (st i : Nat), i ≤ n + 1 ∧ sv = .int .i64 st ∧ iv = .int .i64 i ∧ WdAt S O st i ∧ O.length ≤ i ∧ wr.ownsRow w.heap.size 9 1 ov O.length (strsV (O.map bst)) ∧ Up w wr) (fun _ _ iv _ => n + 1 - (intOf iv).toNat)
  case atStart => exact ⟨[], 0, 0, by omega, rfl, rfl, WdAt.start S, by simp, ⟨rfl, .inl ⟨rfl, rfl⟩⟩, Up.refl _⟩
  case round =>
    rename World => wr
    obtain ⟨O, st, i, hi, rfl, rfl, hwd, hol, hown, hup⟩ := hrel
    obtain ⟨oa, oc, rfl⟩ := own_slice hown
    have HOWN := Lib.hid hown
    have HU := Lib.hid hup
    have HW := Lib.hid hwd
    obtain ⟨m, hm⟩ : ∃ m, O.length = m := ⟨_, rfl⟩
    have HM := Lib.hid hm
    rw [hm] at hol HOWN ⊢
    clear hown hup hwd hm
    by_cases h1 : i < n
    · have h1I : (i : Int) ≤ (B.size : Int) := by rw [HZ.out]; omega
      have h1J : ((i : Int) == (B.size : Int)) = false := by rw [HZ.out]; simp; omega
      obtain ⟨c, hc⟩ : ∃ c, S.getD i 0 = c := ⟨_, rfl⟩
      have hix := HIX.out i h1
      rw [hc] at hix
      by_cases hcs : c = 32
      · have HC := Lib.hid (hc.trans hcs)
        subst hcs
        have hst : st ≤ i := HW.out.le (by rw [HN.out]; omega)
        have hstI : (st : Int) ≤ i := by omega
        have hsl := HSL.out st i hst (by omega)
        obtain ⟨Q, hQ⟩ : ∃ Q, bst ((S.drop st).take (i - st)) = Q := ⟨_, rfl⟩
        rw [hQ] at hsl
        have HQ := Lib.hid hQ
        clear hc hQ
        go_wp2_with (at_builtin; refine wpList_append_sl _ rfl _ _ 69 rfl w.heap.size 9 j0 _ 1 16 Tryz.underlying69 hi0 hz0 hz1 hz2 rfl (by decide) (.slice oa m oc) m _ rfl (own_up' HOWN.out ((Up.refl wr).alloc _)) (.slice (some ⟨wr.heap.size, 0, none⟩) 1 1) 1 (fun _ _ => .string Q) rfl (SlAt.lay wr _ #[.string Q] 1 1 _ (by decide) (fun i j hi hj => by obtain rfl : i = 0 := (by omega); obtain rfl : j = 0 := (by omega); rfl)) (fun i j _ _ => rfl) (by unfold maxLen; omega) (by omega) (by have := (HU.out.trans ((Up.refl wr).alloc (.cells #[.string Q] 9))).size; omega) ?_; intro v' w2 ho2 hg2 hat2 hnil2; obtain ⟨wb, wd, rfl⟩ := own_slice ho2; have HO2 := Lib.hid ho2; have HG2 := Lib.hid hg2; clear ho2 hg2 hat2 hnil2)
        have HON : Hid (w2.ownsRow w.heap.size 9 1 (.slice wb (m + 1) wd) (m + 1) (strsV ((O ++ [(S.drop st).take (i - st)]).map bst))) := Lib.hid (by
          have h := HO2.out
          rw [List.map_append]
          unfold strsV at h ⊢
          rw [List.map_append]
          rw [← HQ.out] at h
          exact h)
        have HU2 := Lib.hid ((HU.out.trans ((Up.refl wr).alloc (.cells #[.string Q] 9))).grown HG2.out fun g hg => by have := own_base HOWN.out g hg; omega)
        have HM2 : Hid ((O ++ [(S.drop st).take (i - st)]).length = m + 1) := Lib.hid (by rw [List.length_append, HM.out]; rfl)

        try go_roundw
        case rel => exact ⟨_, i + 1, i + 1, by omega, by go_num, by go_num, HW.out.cut (by rw [HN.out]; exact h1) HC.out, by rw [HM2.out]; omega, by rw [HM2.out]; exact HON.out, HU2.out⟩
        case measure => simp [intOf]; omega
      · have HC := Lib.hid (fun e : S.getD i 0 = 32 => hcs (hc.symm.trans e))
        have hcq : ((c.toNat : Int) == 32) = false := by
          simp only [beq_eq_false_iff_ne]; intro e; apply hcs; apply UInt8.toNat.inj; show c.toNat = 32; omega
        clear hc hcs
        go_wp2
        try go_roundw
        case rel => exact ⟨O, st, i + 1, by omega, rfl, by go_num, HW.out.next (by rw [HN.out]; exact h1) HC.out, by rw [HM.out]; omega, by rw [HM.out]; exact HOWN.out, HU.out⟩
        case measure => simp [intOf]; omega
    · by_cases h2 : i = n
      · subst h2
        have h1I : (i : Int) ≤ (B.size : Int) := by rw [HZ.out]; omega
        have h1J : ((i : Int) == (B.size : Int)) = true := by rw [HZ.out]; simp
        have hst : st ≤ i := HW.out.le (by rw [HN.out]; omega)
        have hstI : (st : Int) ≤ i := by omega
        have hsl := HSL.out st i hst (by omega)
        obtain ⟨Q, hQ⟩ : ∃ Q, bst ((S.drop st).take (i - st)) = Q := ⟨_, rfl⟩
        rw [hQ] at hsl
        have HQ := Lib.hid hQ
        have HWL : Hid (WdAt S (O ++ [(S.drop st).take (i - st)]) (i + 1) (i + 1)) := Lib.hid (by
          have h := HW.out
          rw [← HN.out] at h ⊢
          exact h.last)
        clear hQ
        go_wp2_with (at_builtin; refine wpList_append_sl _ rfl _ _ 69 rfl w.heap.size 9 j0 _ 1 16 Tryz.underlying69 hi0 hz0 hz1 hz2 rfl (by decide) (.slice oa m oc) m _ rfl (own_up' HOWN.out ((Up.refl wr).alloc _)) (.slice (some ⟨wr.heap.size, 0, none⟩) 1 1) 1 (fun _ _ => .string Q) rfl (SlAt.lay wr _ #[.string Q] 1 1 _ (by decide) (fun i j hi hj => by obtain rfl : i = 0 := (by omega); obtain rfl : j = 0 := (by omega); rfl)) (fun i j _ _ => rfl) (by unfold maxLen; omega) (by omega) (by have := (HU.out.trans ((Up.refl wr).alloc (.cells #[.string Q] 9))).size; omega) ?_; intro v' w2 ho2 hg2 hat2 hnil2; obtain ⟨wb, wd, rfl⟩ := own_slice ho2; have HO2 := Lib.hid ho2; have HG2 := Lib.hid hg2; clear ho2 hg2 hat2 hnil2)
        have HON : Hid (w2.ownsRow w.heap.size 9 1 (.slice wb (m + 1) wd) (m + 1) (strsV ((O ++ [(S.drop st).take (i - st)]).map bst))) := Lib.hid (by
          have h := HO2.out
          rw [List.map_append]
          unfold strsV at h ⊢
          rw [List.map_append]
          rw [← HQ.out] at h
          exact h)
        have HU2 := Lib.hid ((HU.out.trans ((Up.refl wr).alloc (.cells #[.string Q] 9))).grown HG2.out fun g hg => by have := own_base HOWN.out g hg; omega)
        have HM2 : Hid ((O ++ [(S.drop st).take (i - st)]).length = m + 1) := Lib.hid (by rw [List.length_append, HM.out]; rfl)

        try go_roundw
        case rel => exact ⟨_, i + 1, i + 1, by omega, by go_num, by go_num, HWL.out, by rw [HM2.out]; omega, by rw [HM2.out]; exact HON.out, HU2.out⟩
        case measure => (try simp [intOf]); try omega
      · have h3 : i = n + 1 := by omega
        have h1I : ¬ (i : Int) ≤ (B.size : Int) := by rw [HZ.out]; omega
        have HE : Hid (cutL 32 false S = O) := Lib.hid (by
          rcases HW.out with ⟨_, h, _⟩ | ⟨_, h⟩
          · rw [HN.out] at h; omega
          · exact h)
        clear h3
        go_wp2
        go_ret
        refine ⟨_, rfl, HU.out, ?_⟩
        rw [HE.out]
        have hcap : m ≤ oc := by
          rcases HOWN.out.2 with ⟨h, _⟩ | ⟨g, cap, cur, e, _, hg, hle, _⟩
          · have h9 := (Value.slice.inj h).2.1; omega
          · simp only [Value.slice.injEq] at e
            rw [e.2.2]; exact hle
        exact (show StrsC wr (.slice oa m oc) O from ⟨oa, oc, by rw [HM.out], by rw [HM.out]; exact hcap, StrsAt.own HOWN.out (by rw [List.length_map, HM.out]) (by omega)⟩)
end Go.Proofs.YtlglfdhiopnglaaGreatDoor
end

section
namespace Go.Proofs.YtlglfdhiopnglaaGreatDoor
open Go.ChangeShapes Go.WideShapes Go.ChangeAt Go.RowKit
set_option linter.unusedVariables false
set_option linter.unusedSimpArgs false
set_option maxRecDepth 100000

theorem str_index (S : List UInt8) (i : Nat) (k : Int) (hk : k = i) (hi : i < S.length) (w : World) : (Instr.index 9 (.string (bst S)) (.int .i64 k)).run Tryz.prog w = .ok (.int .u8 ((S.getD i 0).toNat : Int)) w := by
  subst hk
  have hz : (bst S).size = S.length := by simp [bst, ByteArray.size]
  rw [run_index_string w _ _ _ _ (by kernel_rfl), dif_pos ⟨by omega, by omega⟩]
  have e : ∀ k (h : k < (bst S).size), (bst S)[k]'h = S.getD k 0 := fun k h => by
    have h' : k < S.length := by omega
    show S.toArray[k] = _
    rw [List.getD_eq_getElem?_getD, List.getElem?_eq_getElem h']; simp
  rw [e]; simp
def whf (S : List UInt8) : Nat := if 1 < S.length ∧ S.headD 0 = 45 then 1 else 0
theorem whole_drop (S : List UInt8) : wholeF S = ((S.drop (whf S)).all dgB && (decide (whf S < S.length) && (decide (S.getD (whf S) 0 ≠ 48) || decide (S.length = 1)))) := by
  unfold wholeF whf
  split
  · rename_i h
    cases S with
    | nil => simp at h
    | cons a r => cases r with
      | nil => simp at h
      | cons b r => simp
  · cases S with
    | nil => simp
    | cons a r => simp
theorem all_drop (S : List UInt8) (f n : Nat) (hn : S.length = n) (h : ∀ k, f ≤ k → k < n → dgB (S.getD k 0) = true) : (S.drop f).all dgB = true := by
  rw [List.all_eq_true]
  intro x hx
  obtain ⟨k, hk, rfl⟩ := List.mem_iff_getElem.1 hx
  rw [List.getElem_drop]
  rw [List.length_drop] at hk
  have := h (f + k) (by omega) (by omega)
  rwa [List.getD_eq_getElem?_getD, List.getElem?_eq_getElem (by omega)] at this
theorem all_drop_no (S : List UInt8) (f k : Nat) (hf : f ≤ k) (hk : k < S.length) (h : dgB (S.getD k 0) = false) : (S.drop f).all dgB = false := by
  rw [Bool.eq_false_iff]
  intro ha
  rw [List.all_eq_true] at ha
  have := ha (S.getD k 0) (by
    rw [List.getD_eq_getElem?_getD, List.getElem?_eq_getElem hk]
    exact List.mem_iff_getElem.2 ⟨k - f, by rw [List.length_drop]; omega, by rw [List.getElem_drop]; simp only [Option.getD_some]; congr 1; omega⟩)
  rw [h] at this; cases this
theorem decide_not_beq (c : UInt8) : decide (c ≠ 48) = !((c.toNat : Int) == 48) := by
  by_cases h : c = 48
  · subst h; rfl
  · have h2 : ¬ (c.toNat : Int) = 48 := fun e => h (UInt8.toNat.inj (show c.toNat = 48 by omega))
    simp [h, h2]
set_option maxHeartbeats 8000000 in
theorem r01_Whole (S : List UInt8) (hS : S.length ≤ 10000) (w : World) :
    Calls Tryz.prog 96 #[.string (bst S)] w fun e w' => e = .returned (.bool (wholeF S)) ∧ Up w w' := by
  obtain ⟨R, hR⟩ : ∃ R, wholeF S = R := ⟨_, rfl⟩
  rw [hR]
  rw [whole_drop] at hR
  obtain ⟨n, hn⟩ : ∃ n, S.length = n := ⟨_, rfl⟩
  rw [hn] at hS
  have hz : (bst S).size = n := by simp [bst, ByteArray.size, hn]
  have HN := Lib.hid hn
  have HIX := Lib.hid (fun (i : Nat) (k : Int) (hk : k = i) (hi : i < n) w => str_index S i k hk (by rw [hn]; exact hi) w)
  obtain ⟨f, hf⟩ : ∃ f, whf S = f := ⟨_, rfl⟩
  have HF := Lib.hid hf
  rw [hf] at hR
  have HR := Lib.hid hR
  have hc : (n ≤ 1 ∧ f = 0) ∨ (1 < n ∧ S.getD 0 0 = 45 ∧ f = 1) ∨ (1 < n ∧ S.getD 0 0 ≠ 45 ∧ f = 0) := by
    have e : S.headD 0 = S.getD 0 0 := by cases S <;> rfl
    unfold whf at hf
    rw [hn, e] at hf
    by_cases h1 : 1 < n
    · by_cases h2 : S.getD 0 0 = 45
      · rw [if_pos ⟨h1, h2⟩] at hf; exact .inr (.inl ⟨h1, h2, hf.symm⟩)
      · rw [if_neg (fun h => h2 h.2)] at hf; exact .inr (.inr ⟨h1, h2, hf.symm⟩)
    · rw [if_neg (fun h => h1 h.1)] at hf; exact .inl ⟨by omega, hf.symm⟩
  have hfn : f ≤ n := by omega
  clear hn hf hR
  obtain ⟨B, hB⟩ : ∃ B, bst S = B := ⟨_, rfl⟩
  rw [hB] at HIX hz ⊢
  have HZ := Lib.hid hz
  clear hz hB
  have H0 : Hid ((n ≤ 1 ∧ f = 0) ∨ (1 < n ∧ ((S.getD 0 0).toNat : Int) = 45 ∧ f = 1) ∨ (1 < n ∧ (((S.getD 0 0).toNat : Int) == 45) = false ∧ f = 0)) := Lib.hid (by
    rcases hc with h | ⟨h1, h2, h3⟩ | ⟨h1, h2, h3⟩
    · exact .inl h
    · exact .inr (.inl ⟨h1, by rw [h2]; rfl, h3⟩)
    · exact .inr (.inr ⟨h1, by simp only [beq_eq_false_iff_ne]; intro e; apply h2; apply UInt8.toNat.inj; show (S.getD 0 0).toNat = 45; omega, h3⟩))
  clear hc
  go_enter Tryz.func96, Tryz.ntmps96
  rcases H0.out with ⟨h1, rfl⟩ | ⟨h1, h2, rfl⟩ | ⟨h1, h2, rfl⟩
  · have h1I : ¬ (1 : Int) < (B.size : Int) := by rw [HZ.out]; omega
    clear h1
    go_wp2
    go_loopw [4] (fun iv wr => ∃ i : Nat, 0 ≤ i ∧ i ≤ n ∧ iv = .int .i64 i ∧ (∀ k, 0 ≤ k → k < i → dgB (S.getD k 0) = true) ∧ Up w wr) (fun iv _ => n - (intOf iv).toNat)
    case atStart => exact ⟨0, by omega, hfn, rfl, fun k h1 h2 => by omega, Up.refl _⟩
    case round =>
      rename World => wr
      obtain ⟨i, hfi, hi, rfl, hall, hup⟩ := hrel
      have HA := Lib.hid hall
      have HU := Lib.hid hup
      clear hall hup
      by_cases hlt : i < n
      · have hltI : (i : Int) < (B.size : Int) := by rw [HZ.out]; omega
        have hx := HIX.out i i rfl hlt
        obtain ⟨c, hc⟩ : ∃ c, S.getD i 0 = c := ⟨_, rfl⟩
        have HC := Lib.hid hc
        rw [hc] at hx
        clear hc
        obtain ⟨d, hd⟩ : ∃ d : Int, (c.toNat : Int) = d := ⟨_, rfl⟩
        have HD := Lib.hid hd
        rw [hd] at hx
        clear hd
        by_cases h48 : d < 48
        · have HE : Hid (R = false) := Lib.hid (by
            rw [← HR.out, all_drop_no S 0 i hfi (by rw [HN.out]; exact hlt) (by rw [HC.out]; unfold dgB; have := HD.out; simp; omega)]; rfl)
          go_wp2
          go_ret
          exact ⟨ret_bool HE.out.symm, HU.out⟩
        by_cases h57 : 57 < d
        · have HE : Hid (R = false) := Lib.hid (by
            rw [← HR.out, all_drop_no S 0 i hfi (by rw [HN.out]; exact hlt) (by rw [HC.out]; unfold dgB; have := HD.out; simp; omega)]; rfl)
          go_wp2
          go_ret
          exact ⟨ret_bool HE.out.symm, HU.out⟩
        have HE : Hid (dgB c = true) := Lib.hid (by unfold dgB; have := HD.out; simp; omega)
        go_wp2
        try go_roundw
        case rel => exact ⟨i + 1, by omega, by omega, by go_num, fun k h1 h2 => by
          by_cases e : k = i
          · rw [e, HC.out]; exact HE.out
          · exact HA.out k h1 (by omega), HU.out⟩
        case measure => simp [intOf]; omega
      · obtain rfl : i = n := by omega
        have hltI : ¬ (i : Int) < (B.size : Int) := by rw [HZ.out]; omega
        have HE : Hid ((decide (0 < i) && (decide (S.getD 0 0 ≠ 48) || decide (i = 1))) = R) := Lib.hid (by
          have h := HR.out
          rw [all_drop S 0 i HN.out HA.out, HN.out, Bool.true_and] at h
          exact h)
        by_cases h0 : 0 < i
        · have h0I : (0 : Int) < (B.size : Int) := by rw [HZ.out]; omega
          have hx := HIX.out 0 0 rfl h0
          obtain ⟨c, hc⟩ : ∃ c, S.getD 0 0 = c := ⟨_, rfl⟩
          have HE2 : Hid ((decide (c ≠ 48) || decide (i = 1)) = R) := Lib.hid (by
            have h := HE.out
            rw [hc, decide_eq_true h0, Bool.true_and] at h
            exact h)
          rw [hc] at hx
          clear hc
          obtain ⟨q, hq⟩ : ∃ q, ((c.toNat : Int) != 48) = q := ⟨_, rfl⟩
          have HQ : Hid (decide (c ≠ 48) = q) := Lib.hid (by
            rw [← hq, bne, ← decide_not_beq c])
          obtain ⟨u, hu⟩ : ∃ u, ((B.size : Int) == 1) = u := ⟨_, rfl⟩
          have HV : Hid (decide (i = 1) = u) := Lib.hid (by rw [← hu, HZ.out]; by_cases e : i = 1 <;> simp [e]; omega)
          obtain ⟨d, hd⟩ : ∃ d : Int, (c.toNat : Int) = d := ⟨_, rfl⟩
          rw [hd] at hx hq
          clear hd
          cases q <;> cases u
          all_goals
            have HG := Lib.hid HE2.out
            rw [HQ.out, HV.out] at HG
            first
              | (exfalso; have h := HV.out; have h' := H1.out; simp at h; omega)
              | (go_wp2; go_ret; exact ⟨ret_bool HG.out, HU.out⟩)
        · have h0I : ¬ (0 : Int) < (B.size : Int) := by rw [HZ.out]; omega
          have HE2 : Hid (false = R) := Lib.hid (by
            have h := HE.out
            rw [decide_eq_false h0, Bool.false_and] at h
            exact h)
          first
            | (exfalso; have h' := H1.out; omega)
            | (go_wp2; go_ret; exact ⟨ret_bool HE2.out, HU.out⟩)
  · have h1I : (1 : Int) < (B.size : Int) := by rw [HZ.out]; omega
    have hix := HIX.out 0 0 rfl (by omega)
    rw [h2] at hix
    have H1 := Lib.hid h1
    clear h1 h2
    go_wp2
    clear hix
    go_loopw [4] (fun iv wr => ∃ i : Nat, 1 ≤ i ∧ i ≤ n ∧ iv = .int .i64 i ∧ (∀ k, 1 ≤ k → k < i → dgB (S.getD k 0) = true) ∧ Up w wr) (fun iv _ => n - (intOf iv).toNat)
    case atStart => exact ⟨1, by omega, hfn, rfl, fun k h1 h2 => by omega, Up.refl _⟩
    case round =>
      rename World => wr
      obtain ⟨i, hfi, hi, rfl, hall, hup⟩ := hrel
      have HA := Lib.hid hall
      have HU := Lib.hid hup
      clear hall hup
      by_cases hlt : i < n
      · have hltI : (i : Int) < (B.size : Int) := by rw [HZ.out]; omega
        have hx := HIX.out i i rfl hlt
        obtain ⟨c, hc⟩ : ∃ c, S.getD i 0 = c := ⟨_, rfl⟩
        have HC := Lib.hid hc
        rw [hc] at hx
        clear hc
        obtain ⟨d, hd⟩ : ∃ d : Int, (c.toNat : Int) = d := ⟨_, rfl⟩
        have HD := Lib.hid hd
        rw [hd] at hx
        clear hd
        by_cases h48 : d < 48
        · have HE : Hid (R = false) := Lib.hid (by
            rw [← HR.out, all_drop_no S 1 i hfi (by rw [HN.out]; exact hlt) (by rw [HC.out]; unfold dgB; have := HD.out; simp; omega)]; rfl)
          go_wp2
          go_ret
          exact ⟨ret_bool HE.out.symm, HU.out⟩
        by_cases h57 : 57 < d
        · have HE : Hid (R = false) := Lib.hid (by
            rw [← HR.out, all_drop_no S 1 i hfi (by rw [HN.out]; exact hlt) (by rw [HC.out]; unfold dgB; have := HD.out; simp; omega)]; rfl)
          go_wp2
          go_ret
          exact ⟨ret_bool HE.out.symm, HU.out⟩
        have HE : Hid (dgB c = true) := Lib.hid (by unfold dgB; have := HD.out; simp; omega)
        go_wp2
        try go_roundw
        case rel => exact ⟨i + 1, by omega, by omega, by go_num, fun k h1 h2 => by
          by_cases e : k = i
          · rw [e, HC.out]; exact HE.out
          · exact HA.out k h1 (by omega), HU.out⟩
        case measure => simp [intOf]; omega
      · obtain rfl : i = n := by omega
        have hltI : ¬ (i : Int) < (B.size : Int) := by rw [HZ.out]; omega
        have HE : Hid ((decide (1 < i) && (decide (S.getD 1 0 ≠ 48) || decide (i = 1))) = R) := Lib.hid (by
          have h := HR.out
          rw [all_drop S 1 i HN.out HA.out, HN.out, Bool.true_and] at h
          exact h)
        by_cases h0 : 1 < i
        · have h0I : (1 : Int) < (B.size : Int) := by rw [HZ.out]; omega
          have hx := HIX.out 1 1 rfl h0
          obtain ⟨c, hc⟩ : ∃ c, S.getD 1 0 = c := ⟨_, rfl⟩
          have HE2 : Hid ((decide (c ≠ 48) || decide (i = 1)) = R) := Lib.hid (by
            have h := HE.out
            rw [hc, decide_eq_true h0, Bool.true_and] at h
            exact h)
          rw [hc] at hx
          clear hc
          obtain ⟨q, hq⟩ : ∃ q, ((c.toNat : Int) != 48) = q := ⟨_, rfl⟩
          have HQ : Hid (decide (c ≠ 48) = q) := Lib.hid (by
            rw [← hq, bne, ← decide_not_beq c])
          obtain ⟨u, hu⟩ : ∃ u, ((B.size : Int) == 1) = u := ⟨_, rfl⟩
          have HV : Hid (decide (i = 1) = u) := Lib.hid (by rw [← hu, HZ.out]; by_cases e : i = 1 <;> simp [e]; omega)
          obtain ⟨d, hd⟩ : ∃ d : Int, (c.toNat : Int) = d := ⟨_, rfl⟩
          rw [hd] at hx hq
          clear hd
          cases q <;> cases u
          all_goals
            have HG := Lib.hid HE2.out
            rw [HQ.out, HV.out] at HG
            first
              | (exfalso; have h := HV.out; have h' := H1.out; simp at h; omega)
              | (go_wp2; go_ret; exact ⟨ret_bool HG.out, HU.out⟩)
        · have h0I : ¬ (1 : Int) < (B.size : Int) := by rw [HZ.out]; omega
          have HE2 : Hid (false = R) := Lib.hid (by
            have h := HE.out
            rw [decide_eq_false h0, Bool.false_and] at h
            exact h)
          first
            | (exfalso; have h' := H1.out; omega)
            | (go_wp2; go_ret; exact ⟨ret_bool HE2.out, HU.out⟩)
  · have h1I : (1 : Int) < (B.size : Int) := by rw [HZ.out]; omega
    have hix := HIX.out 0 0 rfl (by omega)
    obtain ⟨c0, hc0⟩ : ∃ c : Int, ((S.getD 0 0).toNat : Int) = c := ⟨_, rfl⟩
    rw [hc0] at hix h2
    have H1 := Lib.hid h1
    clear h1 hc0
    go_wp2
    clear hix
    go_loopw [4] (fun iv wr => ∃ i : Nat, 0 ≤ i ∧ i ≤ n ∧ iv = .int .i64 i ∧ (∀ k, 0 ≤ k → k < i → dgB (S.getD k 0) = true) ∧ Up w wr) (fun iv _ => n - (intOf iv).toNat)
    case atStart => exact ⟨0, by omega, hfn, rfl, fun k h1 h2 => by omega, Up.refl _⟩
    case round =>
      rename World => wr
      obtain ⟨i, hfi, hi, rfl, hall, hup⟩ := hrel
      have HA := Lib.hid hall
      have HU := Lib.hid hup
      clear hall hup
      by_cases hlt : i < n
      · have hltI : (i : Int) < (B.size : Int) := by rw [HZ.out]; omega
        have hx := HIX.out i i rfl hlt
        obtain ⟨c, hc⟩ : ∃ c, S.getD i 0 = c := ⟨_, rfl⟩
        have HC := Lib.hid hc
        rw [hc] at hx
        clear hc
        obtain ⟨d, hd⟩ : ∃ d : Int, (c.toNat : Int) = d := ⟨_, rfl⟩
        have HD := Lib.hid hd
        rw [hd] at hx
        clear hd
        by_cases h48 : d < 48
        · have HE : Hid (R = false) := Lib.hid (by
            rw [← HR.out, all_drop_no S 0 i hfi (by rw [HN.out]; exact hlt) (by rw [HC.out]; unfold dgB; have := HD.out; simp; omega)]; rfl)
          go_wp2
          go_ret
          exact ⟨ret_bool HE.out.symm, HU.out⟩
        by_cases h57 : 57 < d
        · have HE : Hid (R = false) := Lib.hid (by
            rw [← HR.out, all_drop_no S 0 i hfi (by rw [HN.out]; exact hlt) (by rw [HC.out]; unfold dgB; have := HD.out; simp; omega)]; rfl)
          go_wp2
          go_ret
          exact ⟨ret_bool HE.out.symm, HU.out⟩
        have HE : Hid (dgB c = true) := Lib.hid (by unfold dgB; have := HD.out; simp; omega)
        go_wp2
        try go_roundw
        case rel => exact ⟨i + 1, by omega, by omega, by go_num, fun k h1 h2 => by
          by_cases e : k = i
          · rw [e, HC.out]; exact HE.out
          · exact HA.out k h1 (by omega), HU.out⟩
        case measure => simp [intOf]; omega
      · obtain rfl : i = n := by omega
        have hltI : ¬ (i : Int) < (B.size : Int) := by rw [HZ.out]; omega
        have HE : Hid ((decide (0 < i) && (decide (S.getD 0 0 ≠ 48) || decide (i = 1))) = R) := Lib.hid (by
          have h := HR.out
          rw [all_drop S 0 i HN.out HA.out, HN.out, Bool.true_and] at h
          exact h)
        by_cases h0 : 0 < i
        · have h0I : (0 : Int) < (B.size : Int) := by rw [HZ.out]; omega
          have hx := HIX.out 0 0 rfl h0
          obtain ⟨c, hc⟩ : ∃ c, S.getD 0 0 = c := ⟨_, rfl⟩
          have HE2 : Hid ((decide (c ≠ 48) || decide (i = 1)) = R) := Lib.hid (by
            have h := HE.out
            rw [hc, decide_eq_true h0, Bool.true_and] at h
            exact h)
          rw [hc] at hx
          clear hc
          obtain ⟨q, hq⟩ : ∃ q, ((c.toNat : Int) != 48) = q := ⟨_, rfl⟩
          have HQ : Hid (decide (c ≠ 48) = q) := Lib.hid (by
            rw [← hq, bne, ← decide_not_beq c])
          obtain ⟨u, hu⟩ : ∃ u, ((B.size : Int) == 1) = u := ⟨_, rfl⟩
          have HV : Hid (decide (i = 1) = u) := Lib.hid (by rw [← hu, HZ.out]; by_cases e : i = 1 <;> simp [e]; omega)
          obtain ⟨d, hd⟩ : ∃ d : Int, (c.toNat : Int) = d := ⟨_, rfl⟩
          rw [hd] at hx hq
          clear hd
          cases q <;> cases u
          all_goals
            have HG := Lib.hid HE2.out
            rw [HQ.out, HV.out] at HG
            first
              | (exfalso; have h := HV.out; have h' := H1.out; simp at h; omega)
              | (go_wp2; go_ret; exact ⟨ret_bool HG.out, HU.out⟩)
        · have h0I : ¬ (0 : Int) < (B.size : Int) := by rw [HZ.out]; omega
          have HE2 : Hid (false = R) := Lib.hid (by
            have h := HE.out
            rw [decide_eq_false h0, Bool.false_and] at h
            exact h)
          first
            | (exfalso; have h' := H1.out; omega)
            | (go_wp2; go_ret; exact ⟨ret_bool HE2.out, HU.out⟩)
end Go.Proofs.YtlglfdhiopnglaaGreatDoor
end

section
namespace Go.Proofs.YtlglfdhiopnglaaGreatDoor
open Go.ChangeShapes Go.WideShapes Go.ChangeAt Go.RowKit
set_option linter.unusedVariables false
set_option linter.unusedSimpArgs false
set_option maxRecDepth 100000

theorem vluG_drop {S : List UInt8} {i : Nat} {c : UInt8} (hi : i < S.length) (hc : S.getD i 0 = c) (m : Nat) : vluG (S.drop i) m = if c = 45 then vluG (S.drop (i + 1)) m else if m * 10 + (c.toNat - 48) > 2147483647 then none else vluG (S.drop (i + 1)) (m * 10 + (c.toNat - 48)) := by
  rw [List.drop_eq_getElem_cons hi]
  have : S[i] = c := by rw [← hc, List.getD_eq_getElem?_getD, List.getElem?_eq_getElem hi]; rfl
  rw [this]; rfl
theorem beq45 (c : UInt8) : ((c.toNat : Int) == 45) = decide (c = 45) := by
  by_cases h : c = 45
  · subst h; rfl
  · have h2 : ¬ (c.toNat : Int) = 45 := fun e => h (UInt8.toNat.inj (show c.toNat = 45 by omega))
    simp [h, h2]

set_option maxHeartbeats 8000000 in
theorem r01_value (S : List UInt8) (hS : S.length ≤ 10000) (hg : ∀ k, k < S.length → S.getD k 0 ≠ 45 → dgB (S.getD k 0) = true) (w : World) :
    Calls Tryz.prog 97 #[.string (bst S)] w fun e w' => e = .returned (.tuple #[.int .i64 (vluF S).1, .bool (vluF S).2]) ∧ Up w w' := by
  obtain ⟨R, hR⟩ : ∃ R, vluF S = R := ⟨_, rfl⟩
  rw [hR]
  unfold vluF at hR
  obtain ⟨n, hn⟩ : ∃ n, S.length = n := ⟨_, rfl⟩
  rw [hn] at hS hg hR
  have hz : (bst S).size = n := by simp [bst, ByteArray.size, hn]
  have HN := Lib.hid hn
  have HG := Lib.hid hg
  have HIX := Lib.hid (fun (i : Nat) (k : Int) (hk : k = i) (hi : i < n) w => str_index S i k hk (by rw [hn]; exact hi) w)
  obtain ⟨V, hV⟩ : ∃ V, vluG S 0 = V := ⟨_, rfl⟩
  rw [hV] at hR
  have HR := Lib.hid hR
  have HV : Hid (vluG (S.drop 0) 0 = V) := Lib.hid (by rw [List.drop_zero]; exact hV)
  clear hn hR hV hg
  obtain ⟨B, hB⟩ : ∃ B, bst S = B := ⟨_, rfl⟩
  rw [hB] at HIX hz ⊢
  have HZ := Lib.hid hz
  clear hz hB
  obtain ⟨r1, r2⟩ := R
  dsimp only
  go_enter Tryz.func97, Tryz.ntmps97
  go_wp2
  go_loopw [4, 5] (fun mv iv wr => ∃ (m i : Nat), i ≤ n ∧ m ≤ 2147483647 ∧ mv = .int .i64 m ∧ iv = .int .i64 i ∧ vluG (S.drop i) m = V ∧ Up w wr) (fun _ iv _ => n - (intOf iv).toNat)
  case atStart => exact ⟨0, 0, by omega, by omega, rfl, rfl, HV.out, Up.refl _⟩
  case round =>
    rename World => wr
    obtain ⟨m, i, hi, hm, rfl, rfl, hv, hup⟩ := hrel
    have HW := Lib.hid hv
    have HU := Lib.hid hup
    clear hv hup
    by_cases hlt : i < n
    · have hltI : (i : Int) < (B.size : Int) := by rw [HZ.out]; omega
      have hx := HIX.out i i rfl hlt
      obtain ⟨c, hc⟩ : ∃ c, S.getD i 0 = c := ⟨_, rfl⟩
      have HD := Lib.hid (vluG_drop (S := S) (i := i) (by rw [HN.out]; exact hlt) hc m)
      have HDG := Lib.hid (fun h => by have := HG.out i hlt h; rw [hc] at this; exact this)
      rw [hc] at hx HDG
      clear hc
      have HB := Lib.hid (beq45 c)
      obtain ⟨d, hd⟩ : ∃ d : Nat, c.toNat = d := ⟨_, rfl⟩
      have HDD := Lib.hid hd
      rw [hd] at hx HD HB
      clear hd
      by_cases h45 : c = 45
      · have hq : ((d : Int) == 45) = true := by rw [HB.out]; simpa using h45
        have HE : Hid (vluG (S.drop (i + 1)) m = V) := Lib.hid (by rw [← HW.out, HD.out, if_pos h45])
        clear h45
        go_wp2
        try go_roundw
        case rel => exact ⟨m, i + 1, by omega, hm, rfl, by go_num, HE.out, HU.out⟩
        case measure => simp [intOf]; omega
      · have hq : ((d : Int) == 45) = false := by rw [HB.out]; simpa using h45
        have hdg : 48 ≤ d ∧ d ≤ 57 := by
          have := HDG.out h45
          unfold dgB at this
          rw [HDD.out] at this
          simpa using this
        have hd1 : (48 : Int) ≤ d := by omega
        have hd2 : (d : Int) ≤ 57 := by omega
        have hm2 : (m : Int) ≤ 2147483647 := by omega
        by_cases hbig : m * 10 + (d - 48) > 2147483647
        · have hbigI : (2147483647 : Int) < (m : Int) * 10 + ((d : Int) - 48) := by omega
          have HE : Hid (V = none) := Lib.hid (by rw [← HW.out, HD.out, if_neg h45, if_pos hbig])
          have HR2 : Hid (r1 = 0 ∧ r2 = false) := Lib.hid (by have h := HR.out; rw [HE.out] at h; simp only [Prod.mk.injEq] at h; exact ⟨h.1.symm, h.2.symm⟩)
          clear hdg h45
          go_wp2
          go_ret2
          exact ⟨ret_ib HR2.out.1.symm HR2.out.2.symm, HU.out⟩
        · have hbigI : ¬ (2147483647 : Int) < (m : Int) * 10 + ((d : Int) - 48) := by omega
          have HE : Hid (vluG (S.drop (i + 1)) (m * 10 + (d - 48)) = V) := Lib.hid (by rw [← HW.out, HD.out, if_neg h45, if_neg hbig])
          clear h45
          go_wp2
          try go_roundw
          case rel => exact ⟨m * 10 + (d - 48), i + 1, by omega, by omega, by congr 1; omega, by go_num, HE.out, HU.out⟩
          case measure => simp [intOf]; omega
    · obtain rfl : i = n := by omega
      have hltI : ¬ (i : Int) < (B.size : Int) := by rw [HZ.out]; omega
      have HE : Hid (V = some m) := Lib.hid (by rw [← HW.out, List.drop_of_length_le (by rw [HN.out]; exact Nat.le_refl _)]; rfl)
      have HR2 : Hid (r1 = (if 0 < i ∧ S.headD 0 = 45 then -(m : Int) else m) ∧ r2 = true) := Lib.hid (by have h := HR.out; rw [HE.out] at h; simp only [Prod.mk.injEq] at h; exact ⟨h.1.symm, h.2.symm⟩)
      have hm2 : (m : Int) ≤ 2147483647 := by omega
      by_cases h0 : 0 < i
      · have h0I : (0 : Int) < (B.size : Int) := by rw [HZ.out]; omega
        have hx := HIX.out 0 0 rfl h0
        obtain ⟨c, hc⟩ : ∃ c, S.getD 0 0 = c := ⟨_, rfl⟩
        have HH : Hid (S.headD 0 = c) := Lib.hid (by rw [← hc]; cases S <;> rfl)
        rw [hc] at hx
        clear hc
        have HB := Lib.hid (beq45 c)
        obtain ⟨d, hd⟩ : ∃ d : Int, (c.toNat : Int) = d := ⟨_, rfl⟩
        rw [hd] at hx HB
        clear hd
        by_cases h45 : c = 45
        · have hq : (d == 45) = true := by rw [HB.out]; simpa using h45
          have HF : Hid (r1 = -(m : Int)) := Lib.hid (by rw [HR2.out.1, if_pos ⟨h0, HH.out.trans h45⟩])
          clear h45
          go_wp2
          go_ret2
          exact ⟨ret_ib HF.out.symm HR2.out.2.symm, HU.out⟩
        · have hq : (d == 45) = false := by rw [HB.out]; simpa using h45
          have HF : Hid (r1 = (m : Int)) := Lib.hid (by rw [HR2.out.1, if_neg (fun h => h45 (HH.out.symm.trans h.2))])
          clear h45
          go_wp2
          go_ret2
          exact ⟨ret_ib HF.out.symm HR2.out.2.symm, HU.out⟩
      · have h0I : ¬ (0 : Int) < (B.size : Int) := by rw [HZ.out]; omega
        have HF : Hid (r1 = (m : Int)) := Lib.hid (by rw [HR2.out.1, if_neg (fun h => h0 h.1)])
        go_wp2
        go_ret2
        exact ⟨ret_ib HF.out.symm HR2.out.2.symm, HU.out⟩
end Go.Proofs.YtlglfdhiopnglaaGreatDoor
end

section
namespace Go.Proofs.YtlglfdhiopnglaaGreatDoor
open Go.ChangeShapes Go.WideShapes Go.ChangeAt Go.RowKit
set_option linter.unusedVariables false
set_option linter.unusedSimpArgs false
set_option maxRecDepth 100000

/-- What the reference 1's Parse answers at a text. -/
def RPar (S : List UInt8) : Prop := ∀ w, Calls Tryz.prog 70 #[.string (bst S)] w fun e w' => e = .returned (.tuple #[.agg #[.int .i64 (rparF S).1.1, .int .i64 (rparF S).1.2], .int .i64 (rparF S).2]) ∧ Up w w'
set_option maxHeartbeats 8000000 in
theorem r47_integer (S : List UInt8) (hP : RPar S) (w : World) :
    Calls Tryz.prog 99 #[.string (bst S)] w fun e w' => e = .returned (.tuple #[.int .i64 (intF S).1, .bool (intF S).2]) ∧ Up w w' := by
  obtain ⟨R, hR⟩ : ∃ R, intF S = R := ⟨_, rfl⟩
  rw [hR]
  unfold intF at hR
  unfold RPar at hP
  obtain ⟨r1, r2⟩ := R
  generalize rparF S = p at *
  obtain ⟨⟨n, d⟩, e0⟩ := p
  dsimp only at hP hR ⊢
  have HP := Lib.hid hP
  have HR := Lib.hid hR
  generalize bst S = B at *
  clear hP hR
  go_enter Tryz.func99, Tryz.ntmps99
  by_cases h1 : e0 = 0
  · subst h1
    by_cases h2 : d = 1
    · subst h2
      have HE : Hid (r1 = n ∧ r2 = true) := Lib.hid (by have h := HR.out; rw [if_neg (by decide)] at h; simp only [Prod.mk.injEq] at h; exact ⟨h.1.symm, h.2.symm⟩)
      go_wp2_with (go_at_call 70; refine (HP.out _).mono ?_; rintro e x ⟨rfl, hx⟩)
      go_ret2
      exact ⟨ret_ib HE.out.1.symm HE.out.2.symm, hx.alloc _⟩
    · have h2b : (d == 1) = false := by simpa using h2
      have h2c : (d != 1) = true := by simpa using h2
      have HE : Hid (r1 = 0 ∧ r2 = false) := Lib.hid (by have h := HR.out; rw [if_pos (.inr h2)] at h; simp only [Prod.mk.injEq] at h; exact ⟨h.1.symm, h.2.symm⟩)
      clear h2
      go_wp2_with (go_at_call 70; refine (HP.out _).mono ?_; rintro e x ⟨rfl, hx⟩)
      go_ret2
      exact ⟨ret_ib HE.out.1.symm HE.out.2.symm, hx.alloc _⟩
  · have h1b : (e0 == 0) = false := by simpa using h1
    have h1c : (e0 != 0) = true := by simpa using h1
    have HE : Hid (r1 = 0 ∧ r2 = false) := Lib.hid (by have h := HR.out; rw [if_pos (.inl h1)] at h; simp only [Prod.mk.injEq] at h; exact ⟨h.1.symm, h.2.symm⟩)
    clear h1
    go_wp2_with (go_at_call 70; refine (HP.out _).mono ?_; rintro e x ⟨rfl, hx⟩)
    go_ret2
    exact ⟨ret_ib HE.out.1.symm HE.out.2.symm, hx.alloc _⟩
set_option maxHeartbeats 8000000 in
theorem r47_register (kind : Int) (S : List UInt8) (hS : S.length ≤ 10000) (hP : ∀ T, T.length ≤ S.length → RPar T) (w : World) :
    Calls Tryz.prog 95 #[.int .u8 kind, .string (bst S)] w fun e w' => e = .returned (.tuple #[.int .i64 (rgF kind S).1, .bool (rgF kind S).2]) ∧ Up w w' := by
  obtain ⟨R, hR⟩ : ∃ R, rgF kind S = R := ⟨_, rfl⟩
  rw [hR]
  unfold rgF at hR
  obtain ⟨r1, r2⟩ := R
  dsimp only
  obtain ⟨n, hn⟩ : ∃ n, S.length = n := ⟨_, rfl⟩
  have hz : (bst S).size = n := by simp [bst, ByteArray.size, hn]
  have HR := Lib.hid hR
  have HIX := Lib.hid (fun (h : 0 < n) w => str_index S 0 0 rfl (by rw [hn]; exact h) w)
  have HIT := Lib.hid (fun (T : List UInt8) (h : T.length ≤ S.length) w => r47_integer T (hP T h) w)
  have HSL : Hid ((bst S).extract 1 n = bst S.tail) := Lib.hid (by
    apply ByteArray.ext
    rw [ByteArray.data_extract]
    show (S.toArray).extract 1 n = _
    rw [List.extract_toArray, List.extract_eq_take_drop, ← hn, List.drop_one, List.take_of_length_le (by simp)]
    rfl)
  have HN := Lib.hid hn
  have h0 : S.headD 0 = S.getD 0 0 := by cases S <;> rfl
  have HH := Lib.hid h0
  clear hR hn hP h0
  by_cases hk : kind = 120 ∨ kind = 114
  · have HK : Hid ((if S.length < 2 ∨ ((S.headD 0).toNat : Int) ≠ kind then (0, false) else intF S.tail) = (r1, r2)) := Lib.hid (by have h := HR.out; rw [if_pos hk] at h; exact h)
    have HI2 : Hid (∀ w, Calls Tryz.prog 99 #[.string (bst S.tail)] w fun e w' => e = .returned (.tuple #[.int .i64 (intF S.tail).1, .bool (intF S.tail).2]) ∧ Up w w') := Lib.hid (fun w => HIT.out S.tail (by rw [List.length_tail]; omega) w)
    generalize bst S.tail = D at *
    obtain ⟨B, hB⟩ : ∃ B, bst S = B := ⟨_, rfl⟩
    rw [hB] at HIX HSL hz ⊢
    have HZ := Lib.hid hz
    clear hz hB HR HIT
    by_cases h2 : n < 2
    · have h2I : (B.size : Int) < 2 := by rw [HZ.out]; omega
      have HE : Hid (r1 = 0 ∧ r2 = false) := Lib.hid (by have h := HK.out; rw [if_pos (.inl (by rw [HN.out]; exact h2))] at h; simp only [Prod.mk.injEq] at h; exact ⟨h.1.symm, h.2.symm⟩)
      rcases hk with rfl | rfl
      all_goals
        go_enter Tryz.func95, Tryz.ntmps95
        go_wp2
        go_ret2
        exact ⟨ret_ib HE.out.1.symm HE.out.2.symm, Up.refl _⟩
    · have h2I : ¬ (B.size : Int) < 2 := by rw [HZ.out]; omega
      have hx := HIX.out (by omega)
      obtain ⟨d, hd⟩ : ∃ d : Int, ((S.getD 0 0).toNat : Int) = d := ⟨_, rfl⟩
      have HD : Hid (((S.headD 0).toNat : Int) = d) := Lib.hid (by rw [HH.out]; exact hd)
      rw [hd] at hx
      clear hd
      by_cases h3 : d = kind
      · have HE : Hid (r1 = (intF S.tail).1 ∧ r2 = (intF S.tail).2) := Lib.hid (by
          have h := HK.out
          rw [if_neg (by rw [HD.out, HN.out]; rintro (h | h); exact h2 h; exact h h3)] at h
          rw [h]; exact ⟨rfl, rfl⟩)
        subst h3
        have hsl : B.extract 1 B.size = D := by rw [HZ.out]; exact HSL.out
        have hb1 : (1 : Int) ≤ (B.size : Int) := by rw [HZ.out]; omega
        rcases hk with rfl | rfl
        all_goals
          go_enter Tryz.func95, Tryz.ntmps95
          go_wp2_with (go_at_call 99; refine (HI2.out _).mono ?_; rintro e x ⟨rfl, hx⟩; have HX := Lib.hid hx; clear hx)
          go_ret2
          exact ⟨ret_ib HE.out.1.symm HE.out.2.symm, HX.out⟩
      · have HE : Hid (r1 = 0 ∧ r2 = false) := Lib.hid (by have h := HK.out; rw [if_pos (.inr (by rw [HD.out]; exact h3))] at h; simp only [Prod.mk.injEq] at h; exact ⟨h.1.symm, h.2.symm⟩)
        rcases hk with rfl | rfl
        all_goals
          have h3c : (d == 120) = false ∨ (d == 114) = false := by simp; omega
          go_enter Tryz.func95, Tryz.ntmps95
          have h3b := beq_eq_false_iff_ne.2 h3
          have h3d := bne_iff_ne.2 h3
          clear h3c h3
          go_wp2
          go_ret2
          exact ⟨ret_ib HE.out.1.symm HE.out.2.symm, Up.refl _⟩
  · have HK : Hid (intF S = (r1, r2)) := Lib.hid (by have h := HR.out; rw [if_neg hk] at h; exact h)
    have HI2 := Lib.hid (HIT.out S (Nat.le_refl _))
    have k1 : (kind == 120) = false := by simp; omega
    have k2 : (kind == 114) = false := by simp; omega
    rw [HK.out] at HI2
    generalize bst S = B at *
    clear hk HR HIT hz
    go_enter Tryz.func95, Tryz.ntmps95
    go_wp2_with (go_at_call 99; refine (HI2.out _).mono ?_; rintro e x ⟨rfl, hx⟩; have HX := Lib.hid hx; clear hx)
    go_ret2
    exact ⟨rfl, HX.out⟩
end Go.Proofs.YtlglfdhiopnglaaGreatDoor
end
