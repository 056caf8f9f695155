/-
  ConstraintComplement: the walk of the law.
-/
import Derived.Test.YtahlecmlhdikjaaDoorCoCp
import Derived.Test.YtahlecmlhdikjaaDoorGe
import Derived.Test.YtahlecmlhdikjaaDoorCoX
import Derived.Test.YtahlecmlhdikjaaDoorGi
import Derived.Test.YtahlecmlhdikjaaDoorCoR
import Derived.Test.YtahlecmlhdikjaaDoorCoN
namespace Go.Proofs.YtahlecmlhdikjaaDoor.constraintComplement
open Go.ChangeShapes Go.WideShapes Go.ChangeAt Go.RowKit
set_option linter.unusedVariables false
set_option linter.unusedSimpArgs false

/-- The elements of a list of one or two. -/
theorem el {w : World} {a : Option Addr} {n cap : Nat} {cs : List Con} (h : ConsAt w (.slice a n cap) cs) (hn : cs.length = n) (k : Nat) (hk : k < n) :
    ∃ bl off lv, a = some ⟨bl, off, none⟩ ∧ bl < w.heap.size ∧ w.cell? ⟨bl, off + k * 3, none⟩ = some (.int .i64 (cs.getD k c0).1) ∧ w.cell? ⟨bl, off + k * 3 + 1, none⟩ = some lv ∧ w.cell? ⟨bl, off + k * 3 + 2, none⟩ = some (.bool (cs.getD k c0).2.2) ∧ Part w lv (cs.getD k c0).2.1 ∧ In64 (cs.getD k c0).1 := by
  obtain ⟨bl, off, lv, K, l, b, ha, hbl, hg, k0, k1, k2, hp, hK⟩ := h.elem (Up.refl w) k (by omega) hn rfl
  rw [hg]
  exact ⟨bl, off, lv, ha, hbl, k0, k1, k2, hp, hK⟩

set_option maxHeartbeats 8000000 in
set_option maxRecDepth 100000 in
theorem walk (W : World) {v v' : Value} {c : Con} {env : List Mono} (w0 : ConArg W v c) (w1 : MonosArg W v' env) :
    Calls Tryd.prog 6 #[v, v'] W fun e w' => e = .returned (.bool true) ∧ Up W w' := by
  obtain ⟨K, l, b⟩ := c
  obtain ⟨lv, rfl, hp, hK⟩ := w0
  obtain ⟨he, hen, -, -⟩ := w1
  dsimp only at hp hK ⊢
  have HP := Lib.hid hp
  have HE := Lib.hid he
  obtain ⟨a', cap', rfl⟩ := he.slice
  obtain ⟨n', hn'⟩ : ∃ n', env.length = n' := ⟨_, rfl⟩
  rw [hn'] at HE ⊢
  obtain ⟨⟨rl, re⟩, hr⟩ : ∃ r, negF (K, l, b) = r := ⟨_, rfl⟩
  have HF : Hid (re ≠ 0 → rl = []) := Lib.hid fun h => by
    rcases neg_shape (K, l, b) with ⟨e, he, h'⟩ | ⟨x, h'⟩ | ⟨x, y, h'⟩ <;> rw [hr] at h' <;> simp only [Prod.mk.injEq] at h'
    · exact h'.1
    · exact absurd h'.2 h
    · exact absurd h'.2 h
  have HSZ : Hid (rl.length ≤ 2) := Lib.hid (by have := neg_small (K, l, b); rw [hr] at this; exact this)
  have HLN : Hid (∀ x ∈ rl, x.2.1.length = l.length) := Lib.hid (by have := neg_len (K, l, b); rw [hr] at this; exact this)
  obtain ⟨⟨o, f⟩, hof⟩ : ∃ z, holdsF (K, l, b) env = z := ⟨_, rfl⟩
  have HCA : Hid (re = 0 → f = 0 → (∀ x ∈ rl, (holdsF x env).2 = 0) → n01 o + cntF env rl = 1) := Lib.hid fun h1 h2 h3 => by
    subst h1
    have := compl_all hr (by rw [hof]; exact h2) h3
    rw [hof] at this; exact this
  obtain ⟨q, hq⟩ : ∃ q, smallC [(K, l, b)] 1 = q := ⟨_, rfl⟩
  have HSM : Hid (∀ x n, Up W x → x.heap.size = n → Calls Tryd.prog 13 #[.slice (some ⟨n, 0, none⟩) 1 1, .int .i64 1] (x.alloc (.cells #[.int .i64 K, lv, .bool b] 26)) fun e w' => e = .returned (.bool q) ∧ Up (x.alloc (.cells #[.int .i64 K, lv, .bool b] 26)) w') := Lib.hid fun x n hx hn => by
    subst hn
    rw [← hq]; exact law_Small _ _ 1 _ (cons_one _ (hp.up hx) hK) (by omega)
  have HLEN : Hid (q = true → l.length ≤ 1000) := Lib.hid fun h => by
    rw [h] at hq
    unfold smallC smallK at hq
    simp at hq
    omega
  have HNE : Hid (l.length ≤ 1000 → ∀ x, Part x lv l → Calls Tryd.prog 20 #[.agg #[.int .i64 K, lv, .bool b]] x (ConsErr x (rl, re))) := Lib.hid fun h x hx => hr ▸ con_Negate K lv l b x hx hK h
  have HHO : Hid (∀ c : Con, c.2.1.length ≤ 1000 → In64 c.1 → ∀ x v, Part x v c.2.1 → MonosAt x (.slice a' n' cap') env → Calls Tryd.prog 19 #[.agg #[.int .i64 c.1, v, .bool c.2.2], .slice a' n' cap'] x (HoldsR x (holdsF c env))) := Lib.hid fun c h1 h2 x v h3 h4 => r06_Holds c.1 v _ c.2.1 env c.2.2 x h3.1 h4 h2 h3.2.1 hen h1
  have HEX : Hid (∀ x, Calls Tryd.prog 14 #[] x fun e w' => e = .returned (.bool true) ∧ Up x w') := Lib.hid law_examples
  have HKK := Lib.hid hK
  have HH1 : Hid (l.length ≤ 1000 → ∀ x, Part x lv l → MonosAt x (.slice a' n' cap') env → Calls Tryd.prog 19 #[.agg #[.int .i64 K, lv, .bool b], .slice a' n' cap'] x (HoldsR x (o, f))) := Lib.hid fun hl x h1 h2 => hof ▸ HHO.out (K, l, b) hl HKK.out x lv h1 h2
  clear hp hK hr hq he hen hn' hof
  go_enter Tryd.func6, Tryd.ntmps6
  go_wp2_with fail
  refine (HSM.out (W.alloc (.cells #[.int .i64 K, lv, .bool b] 26)) _ ((Up.refl W).alloc _) (size_alloc W _)).mono ?_
  rintro e x1 ⟨rfl, hx1⟩
  have hs := hx1.size
  rw [size_alloc, size_alloc] at hs
  have a0 : x1.cell? ⟨W.heap.size, 0, none⟩ = some (.int .i64 K) := (hx1.cell _ _ (by rw [size_alloc, size_alloc]; omega)).trans (by go_simp)
  have a1 : x1.cell? ⟨W.heap.size, 1, none⟩ = some lv := (hx1.cell _ _ (by rw [size_alloc, size_alloc]; omega)).trans (by go_simp)
  have a2 : x1.cell? ⟨W.heap.size, 2, none⟩ = some (.bool b) := (hx1.cell _ _ (by rw [size_alloc, size_alloc]; omega)).trans (by go_simp)
  have HU1 := Lib.hid ((((Up.refl W).alloc (.cells #[.int .i64 K, lv, .bool b] 26)).alloc _).trans hx1)
  clear hx1
  have q0 : W.heap.size < x1.heap.size := by omega
  clear hs
  have early : ∀ {x : World}, Hid (Up W x) → Calls Tryd.prog 14 #[] x fun e w' => e = .returned (.bool true) ∧ Up W w' := fun hU => (HEX.out _).mono fun e w' h => ⟨h.1, hU.out.trans h.2⟩
  cases q
  · go_wp2_with fail
    refine (early HU1).mono ?_
    rintro e x2 ⟨rfl, hx2⟩
    go_wp2
    go_ret
    exact ⟨rfl, hx2⟩
  have hl := HLEN.out rfl
  have HL := Lib.hid hl
  by_cases hbig : 100 < n'
  · have hbI : (100 : Int) < n' := by omega
    go_wp2_with fail
    refine (early HU1).mono ?_
    rintro e x2 ⟨rfl, hx2⟩
    go_wp2
    go_ret
    exact ⟨rfl, hx2⟩
  have hbI : ¬ (100 : Int) < n' := by omega
  clear hl hbig
  go_wp2_with fail
  refine (HNE.out HL.out _ (HP.out.up HU1.out)).mono ?_
  rintro e x2 ⟨⟨v1, rfl, hv1⟩, hx2⟩
  have a0' := (hx2.cell _ _ q0).trans a0
  have a1' := (hx2.cell _ _ q0).trans a1
  have a2' := (hx2.cell _ _ q0).trans a2
  have q0' : W.heap.size < x2.heap.size := Nat.lt_of_lt_of_le q0 hx2.size
  have HU2 := Lib.hid (HU1.out.trans hx2)
  clear a0 a1 a2 hx2 HU1 q0
  dsimp only at hv1
  obtain ⟨⟨av, capv, rfl⟩, -⟩ := hv1.slice
  obtain ⟨m, hm⟩ : ∃ m, rl.length = m := ⟨_, rfl⟩
  rw [hm] at hv1 ⊢
  have hm2 : m ≤ 2 := hm ▸ HSZ.out
  have hmI : (m : Int) ≤ 2 := by omega
  have HV1 := Lib.hid hv1
  have HM := Lib.hid hm
  clear hv1 hm
  by_cases h1 : re = 0
  · subst h1
    go_wp2_with fail
    refine (HH1.out HL.out _ (HP.out.up HU2.out) (HE.out.up HU2.out)).mono ?_
    rintro e x3 ⟨rfl, hx3⟩
    have HV2 := Lib.hid (HV1.out.up hx3)
    have HU3 := Lib.hid (HU2.out.trans hx3)
    clear hx3 HV1 HU2 a0' a1' a2' q0'
    by_cases hf : f = 0
    · subst hf
      have HCB : Hid ((∀ x ∈ rl, (holdsF x env).2 = 0) → n01 o + cntF env rl = 1) := Lib.hid (HCA.out (by simp) (by simp))
      obtain ⟨oo, hoo⟩ : ∃ oo, oo = o := ⟨_, rfl⟩
      have HO0 := Lib.hid hoo
      rw [← hoo] at HH1 ⊢
      clear hoo
      cases oo
      all_goals
        have HO : Hid (_ = n01 o) := Lib.hid (congrArg n01 HO0.out)
        go_wp2
        go_loopw [7, 10] (fun mv iv wr => ∃ (k : Nat) (s : Int), k ≤ m ∧ iv = .int .i64 k ∧ mv = .int .i64 s ∧ s = n01 o + cntF env (rl.take k) ∧ (∀ x ∈ rl.take k, (holdsF x env).2 = 0) ∧ Up x3 wr) (fun _ iv _ => m - (intOf iv).toNat)
        case atStart => exact ⟨0, _, by omega, rfl, rfl, by rw [← HO.out]; simp [n01, cntF], fun x hx => absurd hx (by simp), Up.refl _⟩
        case round =>
          rename World => wr
          obtain ⟨k, s, hk, rfl, rfl, hs, hall, hU⟩ := hrel
          have hsb : 0 ≤ s ∧ s ≤ 3 := by
            have h1 := cntF_bd env (rl.take k)
            have h2 : (rl.take k).length ≤ 2 := by rw [List.length_take]; have := HSZ.out; omega
            have h3 : 0 ≤ n01 o ∧ n01 o ≤ 1 := by unfold n01; split <;> omega
            omega
          obtain ⟨hs0, hs1⟩ := hsb
          have HS := Lib.hid hs
          have HA := Lib.hid hall
          have HU := Lib.hid hU
          clear hs hall hU
          by_cases hlt : k < m
          · have hltI : (k : Int) < m := by omega
            obtain ⟨bl, off, l1, ha, hbl, k0, k1, k2, hp1, hK1⟩ := el (HV2.out.up HU.out) HM.out k hlt
            subst ha
            obtain ⟨⟨K1, li, b1⟩, hci⟩ : ∃ c, rl.getD k c0 = c := ⟨_, rfl⟩
            rw [hci] at k0 k2 hp1 hK1
            dsimp only at k0 k2 hp1 hK1
            have hgl : rl[k]? = some (K1, li, b1) := by
              have h9 : k < rl.length := by rw [HM.out]; exact hlt
              rw [List.getD_eq_getElem?_getD, List.getElem?_eq_getElem h9] at hci
              rw [List.getElem?_eq_getElem h9]
              exact congrArg some hci
            have hmem : (K1, li, b1) ∈ rl := List.mem_of_getElem? hgl
            have htk : rl.take (k + 1) = rl.take k ++ [(K1, li, b1)] := by rw [List.take_add_one, hgl]; rfl
            have HTK := Lib.hid htk
            have hli : li.length ≤ 1000 := Nat.le_trans (Nat.le_of_eq (HLN.out _ hmem)) HL.out
            obtain ⟨⟨o1, f1⟩, hof1⟩ : ∃ z, holdsF (K1, li, b1) env = z := ⟨_, rfl⟩
            have HH2 : Hid (∀ w, Part w l1 li → MonosAt w (.slice a' n' cap') env → Calls Tryd.prog 19 #[.agg #[.int .i64 K1, l1, .bool b1], .slice a' n' cap'] w (HoldsR w (o1, f1))) := Lib.hid fun w h1 h2 => hof1 ▸ HHO.out (K1, li, b1) hli hK1 w l1 h1 h2
            have HP1 := Lib.hid hp1
            have HF1 := Lib.hid hof1
            have HCI : Hid (cntF env (rl.take (k + 1)) = cntF env (rl.take k) + n01 o1) := Lib.hid (by rw [htk, cntF_snoc, hof1])
            obtain ⟨al, capl, rfl⟩ := hp1.1.slice
            obtain ⟨nl, hnl⟩ : ∃ n, li.length = n := ⟨_, rfl⟩
            rw [hnl] at HP1 HH2 k1
            clear hci hgl hmem htk hli hof1 hp1 hK1 hnl
            go_wp2_with fail
            refine (HH2.out _ HP1.out (HE.out.up (HU3.out.trans HU.out))).mono ?_
            rintro e x4 ⟨rfl, hx4⟩
            have HU4 := Lib.hid (HU.out.trans hx4)
            have HW4 := Lib.hid (HU3.out.trans (HU.out.trans hx4))
            clear hx4 HU HP1 HH2
            by_cases hf1 : f1 = 0
            · subst hf1
              have HA2 : Hid (∀ x ∈ rl.take (k + 1), (holdsF x env).2 = 0) := Lib.hid (by
                rw [HTK.out]
                intro x hx
                rcases List.mem_append.1 hx with h | h
                · exact HA.out x h
                · rw [List.mem_singleton.1 h, HF1.out])
              cases o1
              · have HS2 : Hid (s = n01 o + cntF env (rl.take (k + 1))) := Lib.hid (by rw [HCI.out, HS.out]; simp [n01])
                go_wp2
                go_roundw
                case rel => exact ⟨k + 1, s, by omega, by go_num, rfl, HS2.out, HA2.out, HU4.out⟩
                case measure => simp [intOf]; omega
              · have HS2 : Hid (s + 1 = n01 o + cntF env (rl.take (k + 1))) := Lib.hid (by rw [HCI.out, HS.out]; simp [n01]; omega)
                go_wp2
                go_roundw
                case rel => exact ⟨k + 1, s + 1, by omega, by go_num, by go_num, HS2.out, HA2.out, HU4.out⟩
                case measure => simp [intOf]; omega
            · have hf1' : (f1 == 0) = false := by simpa using hf1
              go_wp2_with fail
              refine (early HW4).mono ?_
              rintro e x5 ⟨rfl, hx5⟩
              go_wp2
              go_ret
              exact ⟨rfl, hx5⟩
          · obtain rfl : k = m := by omega
            have hs1 : s = 1 := by
              have h9 : rl.take k = rl := List.take_of_length_le (by rw [HM.out]; exact Nat.le_refl _)
              have h1 := HS.out
              have h2 := HA.out
              rw [h9] at h1 h2
              rw [h1]; exact HCB.out h2
            subst hs1
            have HW4 := Lib.hid (HU3.out.trans HU.out)
            go_wp2_with fail
            refine (early HW4).mono ?_
            rintro e x5 ⟨rfl, hx5⟩
            go_wp2
            go_ret
            exact ⟨rfl, hx5⟩
    · have hf' : (f == 0) = false := by simpa using hf
      go_wp2_with fail
      refine (early HU3).mono ?_
      rintro e x5 ⟨rfl, hx5⟩
      go_wp2
      go_ret
      exact ⟨rfl, hx5⟩
  · have h1' : (re == 0) = false := by simpa using h1
    have hm0 : m = 0 := by rw [← HM.out, HF.out h1]; rfl
    subst hm0
    go_wp2_with fail
    refine (early HU2).mono ?_
    rintro e x3 ⟨rfl, hx3⟩
    go_wp2
    go_ret
    exact ⟨rfl, hx3⟩
end Go.Proofs.YtahlecmlhdikjaaDoor.constraintComplement
