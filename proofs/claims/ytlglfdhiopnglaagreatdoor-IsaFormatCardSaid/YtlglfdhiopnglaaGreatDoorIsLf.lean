/-
  The reference 47 as text: Format.
-/
import Derived.Test.YtlglfdhiopnglaaGreatDoorIsLi
import Derived.Test.YtlglfdhiopnglaaGreatDoorGe
import Derived.Test.YtlglfdhiopnglaaGreatDoorPeVd
namespace Go.Proofs.YtlglfdhiopnglaaGreatDoor
open Go.ChangeShapes Go.WideShapes Go.ChangeAt Go.RowKit
set_option linter.unusedVariables false
set_option linter.unusedSimpArgs false
set_option maxRecDepth 100000

set_option maxHeartbeats 8000000 in
theorem r47_Format (v : Value) (l : List Ins) (w : World) (hv : InsAt w v l) (hlen : l.length ≤ 200) :
    Calls Tryz.prog 13 #[v] w fun e w' => e = .returned (.string (bst (formatL l))) ∧ Up w w' := by
  obtain ⟨T, hT⟩ : ∃ T, formatL l = T := ⟨_, rfl⟩
  rw [hT]
  unfold formatL at hT
  obtain ⟨⟨a, cap, rfl⟩, hm⟩ := hv.slice
  obtain ⟨n, hn⟩ : ∃ n, l.length = n := ⟨_, rfl⟩
  rw [hn] at hlen ⊢
  have hnI : (n : Int) ≤ 200 := by omega
  have HV := Lib.hid hv
  rw [hn] at HV
  have HN := Lib.hid hn
  have HT := Lib.hid hT
  clear hv hn hT hm
  go_enter Tryz.func13, Tryz.ntmps13
  go_wp2
  go_loopw [3, 4] (fun sv jv wr => ∃ (j : Nat), j ≤ n ∧ sv = .string (bst (textL (l.take j))) ∧ jv = .int .i64 j ∧ Up w wr ∧ (∀ x ∈ l.take j, wfB x = true) ∧ (textL (l.take j)).length ≤ 367 * j) (fun _ jv _ => n - (intOf jv).toNat)
  case atStart => exact ⟨0, by omega, rfl, rfl, Up.refl _, by simp, by simp [textL]⟩
  case round =>
    rename World => wr
    obtain ⟨j, hj, rfl, rfl, hup, hwf, hln⟩ := hrel
    have HU := Lib.hid hup
    have HWA := Lib.hid hwf
    have HLE := Lib.hid hln
    clear hup hwf hln
    by_cases hlt : j < n
    · have hltI : (j : Int) < n := by omega
      obtain ⟨x, hx⟩ : ∃ x, l.getD j i0 = x := ⟨_, rfl⟩
      obtain ⟨bl, off, ha, hbl, ⟨c0, c1, c2, c3, c4, c5, c6, c7, c8, c9, c10⟩, hin⟩ := HV.out.elem HU.out j (by rw [HN.out]; exact hlt) HN.out rfl hx
      subst ha
      have htk : l.take (j + 1) = l.take j ++ [x] := by
        have hjl : j < l.length := by rw [HN.out]; exact hlt
        rw [List.take_succ_eq_append_getElem hjl, ← hx, List.getD_eq_getElem?_getD, List.getElem?_eq_getElem hjl]; rfl
      have hmem : x ∈ l := by
        have hjl : j < l.length := by rw [HN.out]; exact hlt
        rw [← hx, List.getD_eq_getElem?_getD, List.getElem?_eq_getElem hjl]
        exact List.getElem_mem hjl
      have HTK := Lib.hid htk
      have HX := Lib.hid hx
      have hbw : bl < wr.heap.size := Nat.lt_of_lt_of_le hbl HU.out.size
      obtain ⟨wf, hwf⟩ : ∃ r, wfB x = r := ⟨_, rfl⟩
      have HFX := Lib.hid (fun w => r47_Formed x hin wf ((wf_form x).symm.trans hwf) w)
      have HLX : Hid (wf = true → ∀ w, Calls Tryz.prog 35 #[insV x] w fun e' w' => e' = .returned (.string (bst (lineL x))) ∧ Up w w') := Lib.hid (fun h w => r47_Line x hin ((wf_form x).symm.trans (hwf.trans h)) w)
      have HLL := Lib.hid (lineL_len hin)
      have HWX2 := Lib.hid hwf
      have HEL := Lib.hid (fun y (hy : Up w y) => HV.out.elem hy j (by rw [HN.out]; exact hlt) HN.out rfl hx)
      clear htk hin hx hwf
      cases wf
      · have HE : Hid (T = []) := Lib.hid (by
          rw [← HT.out, if_neg]
          intro h
          rw [List.all_eq_true] at h
          have := h x hmem
          rw [HWX2.out] at this; cases this)
        clear hmem HLX
        dsimp only [insV] at HFX
        go_wp2_with (go_at_call 19; refine (HFX.out _).mono ?_; rintro e x1 ⟨rfl, hx1⟩; have HX1 := Lib.hid hx1; clear hx1)
        go_ret
        exact ⟨ret_str (by rw [HE.out]; rfl), HU.out.trans HX1.out⟩
      · have HLC := Lib.hid (HLX.out rfl)
        obtain ⟨LL, hLL⟩ : ∃ LL, lineL x = LL := ⟨_, rfl⟩
        have HTX := Lib.hid (textL_snoc (l.take j) x)
        rw [hLL] at HLC HLL HTX
        obtain ⟨S, hS⟩ : ∃ S, textL (l.take j) = S := ⟨_, rfl⟩
        rw [hS] at HTX HLE ⊢
        have h1 := HLE.out
        have h2 := HLL.out
        have k1 := cat (A := bst S) (B := bst LL) (a := S) (b := LL) rfl rfl rfl (by omega) (by omega)
        have k2 := cat (A := bst (S ++ LL)) (B := ⟨#[10]⟩) (a := S ++ LL) (b := [10]) rfl rfl rfl (by rw [List.length_append]; omega) (by decide)
        obtain ⟨S1, hS1⟩ : ∃ S1, S ++ LL = S1 := ⟨_, rfl⟩
        rw [hS1] at k1 k2
        obtain ⟨S2, hS2⟩ : ∃ S2, S1 ++ [10] = S2 := ⟨_, rfl⟩
        rw [hS2] at k2
        have HS2 : Hid (textL (l.take (j + 1)) = S2) := Lib.hid (by rw [HTK.out, HTX.out, ← hS2, ← hS1, List.append_assoc])
        have HL2 : Hid (S2.length ≤ 367 * (j + 1)) := Lib.hid (by rw [← hS2, ← hS1, List.length_append, List.length_append]; simp only [List.length_cons, List.length_nil]; omega)
        clear hmem HLX hLL h1 h2 hS hS1 hS2
        dsimp only [insV] at HFX HLC
        go_wp2_with (first
          | (go_at_call 19; refine (HFX.out _).mono ?_; rintro e x1 ⟨rfl, hx1⟩; have HX1 := Lib.hid (HU.out.trans hx1); clear hx1 c0 c1 c2 c3 c4 c5 c6 c7 c8 c9 c10; obtain ⟨bl', off', ha, hbl', ⟨c0, c1, c2, c3, c4, c5, c6, c7, c8, c9, c10⟩, hin⟩ := HEL.out _ HX1.out; cases ha; clear hin; have hbw1 : bl < x1.heap.size := Nat.lt_of_lt_of_le hbl HX1.out.size)
          | (go_at_call 35; refine (HLC.out _).mono ?_; rintro e x2 ⟨rfl, hx2⟩; have HX2 := Lib.hid (HX1.out.trans hx2); clear hx2))
        try go_roundw
        case rel => exact ⟨j + 1, by omega, by rw [HS2.out], by go_num, HX2.out, by
          rw [HTK.out]
          intro y hy
          rcases List.mem_append.1 hy with hy | hy
          · exact HWA.out y hy
          · rw [List.mem_singleton.1 hy]; exact HWX2.out, by
          rw [HS2.out]; exact HL2.out⟩
        case measure => simp [intOf]; omega
    · obtain rfl : j = n := by omega
      have hall : l.take j = l := by rw [List.take_of_length_le (by rw [HN.out]; exact Nat.le_refl _)]
      have HE : Hid (T = textL l) := Lib.hid (by
        rw [← HT.out, if_pos]
        rw [List.all_eq_true]
        intro y hy
        exact HWA.out y (by rw [hall]; exact hy))
      rw [hall]
      clear hall
      go_wp2
      go_ret
      exact ⟨ret_str (by rw [HE.out]), HU.out⟩
end Go.Proofs.YtlglfdhiopnglaaGreatDoor
