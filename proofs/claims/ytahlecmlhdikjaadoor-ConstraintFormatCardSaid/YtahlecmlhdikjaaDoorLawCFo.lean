/-
  ConstraintFormat: the walk of the law.
-/
import Derived.Test.YtahlecmlhdikjaaDoorCoFr
import Derived.Test.YtahlecmlhdikjaaDoorFu
import Derived.Test.YtahlecmlhdikjaaDoorGe
import Derived.Test.YtahlecmlhdikjaaDoorCoX
import Derived.Test.YtahlecmlhdikjaaDoorGi
namespace Go.Proofs.YtahlecmlhdikjaaDoor.constraintFormat
open Go.ChangeShapes Go.WideShapes Go.ChangeAt Go.RowKit
set_option linter.unusedVariables false
set_option linter.unusedSimpArgs false

set_option maxHeartbeats 8000000 in
set_option maxRecDepth 100000 in
theorem walk (W : World) {v v' : Value} {c c' : Con} (w0 : ConArg W v c) (w1 : ConArg W v' c') (htab : FTab W) :
    Calls Tryd.prog 9 #[v, v'] W fun e w' => e = .returned (.bool true) ∧ Up W w' := by
  obtain ⟨K, l, b⟩ := c
  obtain ⟨K', l', b'⟩ := c'
  obtain ⟨lv, rfl, hp, hK⟩ := w0
  obtain ⟨lv', rfl, hp', hK'⟩ := w1
  dsimp only at hp hK hp' hK' ⊢
  have HP := Lib.hid hp
  have HP' := Lib.hid hp'
  obtain ⟨q, hq⟩ : ∃ q, smallC [(K, l, b), (K', l', b')] 2 = q := ⟨_, rfl⟩
  have HSM : Hid (∀ x n, Up W x → x.heap.size = n → Calls Tryd.prog 13 #[.slice (some ⟨n, 0, none⟩) 2 2, .int .i64 2] (x.alloc (.cells #[.int .i64 K, lv, .bool b, .int .i64 K', lv', .bool b'] 26)) fun e w' => e = .returned (.bool q) ∧ Up (x.alloc (.cells #[.int .i64 K, lv, .bool b, .int .i64 K', lv', .bool b'] 26)) w') := Lib.hid fun x n hx hn => by
    subst hn
    rw [← hq]; exact law_Small _ _ 2 _ (cons_two _ (hp.up hx) hK (hp'.up hx) hK') (by omega)
  have HLEN : Hid (q = true → l.length ≤ 1000) := Lib.hid fun h => by
    rw [h] at hq
    unfold smallC smallK at hq
    simp at hq
    omega
  obtain ⟨T, hT⟩ : ∃ T, fmtF (K, l, b) = T := ⟨_, rfl⟩
  have HNE : Hid (∀ x, In64 K → FTab x) ∨ True := .inr trivial
  have HF1 : Hid (l.length ≤ 1000 → ∀ x, Up W x → Calls Tryd.prog 26 #[.agg #[.int .i64 K, lv, .bool b]] x fun e w' => e = .returned (.string ⟨T.toArray⟩) ∧ Up x w') := Lib.hid fun h x hx => hT ▸ con_Format K lv l b x (hp.1.up hx) hK hp.2.1 h fun _ n hn y hy => by
    have hr : 0 ≤ n ∧ n < 18446744073709551616 := by
      rcases hn with rfl | ⟨m, hm, rfl, _⟩
      · obtain ⟨k0, k1⟩ := hK
        exact ⟨mag_nonneg K, by unfold mag; split <;> omega⟩
      · obtain ⟨k0, k1⟩ := hp.2.1.mem m hm
        exact ⟨mag_nonneg _, by unfold mag; split <;> omega⟩
    exact s_FormatUint n hr.1 hr.2 y (htab.up (hx.trans hy))
  have HF2 : Hid (l.length ≤ 1000 → ∀ x, Up W x → Calls Tryd.prog 27 #[.agg #[.int .i64 K, lv, .bool b]] x fun e w' => e = .returned (.string ⟨T.toArray⟩) ∧ Up x w') := Lib.hid fun h x hx => hT ▸ r06_Format K lv l b x (hp.1.up hx) hK hp.2.1 h
  obtain ⟨g, hg⟩ : ∃ g, conEq (K, l, b) (K', l', b') = g := ⟨_, rfl⟩
  have HS1 : Hid (∀ x, Up W x → Calls Tryd.prog 28 #[.agg #[.int .i64 K, lv, .bool b], .agg #[.int .i64 K', lv', .bool b']] x fun e w' => e = .returned (.bool g) ∧ Up x w') := Lib.hid fun x hx => hg ▸ con_Same K K' lv lv' l l' b b' x (hp.1.up hx) (hp'.1.up hx)
  have HS2 : Hid (∀ x, Up W x → Calls Tryd.prog 17 #[.agg #[.int .i64 K, lv, .bool b], .agg #[.int .i64 K', lv', .bool b']] x fun e w' => e = .returned (.bool g) ∧ Up x w') := Lib.hid fun x hx => hg ▸ base_Con K K' lv lv' l l' b b' x (hp.1.up hx) (hp'.1.up hx)
  have HS3 : Hid (∀ x, Up W x → Calls Tryd.prog 28 #[.agg #[.int .i64 K, lv, .bool b], .agg #[.int .i64 K, lv, .bool b]] x fun e w' => e = .returned (.bool true) ∧ Up x w') := Lib.hid fun x hx => by
    have := con_Same K K lv lv l l b b x (hp.1.up hx) (hp.1.up hx)
    rw [(conEq_iff _ _).2 rfl] at this; exact this
  have HEX : Hid (∀ x, Calls Tryd.prog 14 #[] x fun e w' => e = .returned (.bool true) ∧ Up x w') := Lib.hid law_examples
  clear hp hK hp' hK' hq hT hg htab HNE
  go_enter Tryd.func9, Tryd.ntmps9
  go_wp2_with fail
  refine (HSM.out ((W.alloc (.cells #[.int .i64 K, lv, .bool b] 26)).alloc (.cells #[.int .i64 K', lv', .bool b'] 26)) _ (((Up.refl W).alloc _).alloc _) (by rw [size_alloc, size_alloc])).mono ?_
  rintro e x1 ⟨rfl, hx1⟩
  have hs := hx1.size
  rw [size_alloc, size_alloc, size_alloc] at hs
  have a0 : x1.cell? ⟨W.heap.size, 0, none⟩ = some (.int .i64 K) := (hx1.cell _ _ (by rw [size_alloc, size_alloc, size_alloc]; omega)).trans (by go_simp)
  have a1 : x1.cell? ⟨W.heap.size, 1, none⟩ = some lv := (hx1.cell _ _ (by rw [size_alloc, size_alloc, size_alloc]; omega)).trans (by go_simp)
  have a2 : x1.cell? ⟨W.heap.size, 2, none⟩ = some (.bool b) := (hx1.cell _ _ (by rw [size_alloc, size_alloc, size_alloc]; omega)).trans (by go_simp)
  have b0 : x1.cell? ⟨W.heap.size + 1, 0, none⟩ = some (.int .i64 K') := (hx1.cell _ _ (by rw [size_alloc, size_alloc, size_alloc]; omega)).trans (by go_simp)
  have b1 : x1.cell? ⟨W.heap.size + 1, 1, none⟩ = some lv' := (hx1.cell _ _ (by rw [size_alloc, size_alloc, size_alloc]; omega)).trans (by go_simp)
  have b2 : x1.cell? ⟨W.heap.size + 1, 2, none⟩ = some (.bool b') := (hx1.cell _ _ (by rw [size_alloc, size_alloc, size_alloc]; omega)).trans (by go_simp)
  have HU1 := Lib.hid (((((Up.refl W).alloc (.cells #[.int .i64 K, lv, .bool b] 26)).alloc (.cells #[.int .i64 K', lv', .bool b'] 26)).alloc _).trans hx1)
  clear hx1
  have q0 : W.heap.size < x1.heap.size := by omega
  have q1 : W.heap.size + 1 < x1.heap.size := by omega
  clear hs
  cases q
  · go_wp2_with fail
    refine (HEX.out _).mono ?_
    rintro e x2 ⟨rfl, hx2⟩
    go_wp2
    go_ret
    exact ⟨rfl, HU1.out.trans hx2⟩
  have hl := HLEN.out rfl
  replace HF1 := Lib.hid (HF1.out hl)
  replace HF2 := Lib.hid (HF2.out hl)
  clear hl HLEN HSM
  obtain ⟨S, hS⟩ : ∃ S : ByteArray, ⟨T.toArray⟩ = S := ⟨_, rfl⟩
  rw [hS] at HF1 HF2
  clear hS
  have hss : (S.toList == S.toList) = true := by simp
  cases g
  all_goals
    go_wp2_with fail
    refine wp_region_ext (by kernel_rfl) (by kernel_rfl) ?_
    repeat (go_big_quiet_step (first
      | (go_at_call 26; exact Calls.ext_of (HF1.out _ (HU1.out.trans (Ext.up _))))
      | (go_at_call 27; exact Calls.ext_of (HF2.out _ (HU1.out.trans (Ext.up _))))
      | (go_at_call 28; (first | (with_reducible exact Calls.ext_of (HS1.out _ (HU1.out.trans (Ext.up _)))) | (with_reducible exact Calls.ext_of (HS3.out _ (HU1.out.trans (Ext.up _))))))
      | (go_at_call 17; exact Calls.ext_of (HS2.out _ (HU1.out.trans (Ext.up _))))
      | (go_at_call 14; exact Calls.ext_of (HEX.out _))))
    refine wpQuiet_nil ?_
    intro x5 hx5
    go_wp2
    go_ret
    exact ⟨rfl, HU1.out.trans hx5⟩
end Go.Proofs.YtahlecmlhdikjaaDoor.constraintFormat
