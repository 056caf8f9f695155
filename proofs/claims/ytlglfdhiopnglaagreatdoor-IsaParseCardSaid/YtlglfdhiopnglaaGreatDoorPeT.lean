/-
  The reference 47: Validate. Printed by mkPeT.py.
-/
import Derived.Test.YtlglfdhiopnglaaGreatDoorGi
import Derived.Test.YtlglfdhiopnglaaGreatDoorGj
namespace Go.Proofs.YtlglfdhiopnglaaGreatDoor
open Go.ChangeShapes Go.WideShapes Go.ChangeAt Go.RowKit
set_option linter.unusedVariables false
set_option linter.unusedSimpArgs false
set_option maxRecDepth 100000

set_option maxHeartbeats 8000000 in
theorem r47_Validate (v tv : Value) (l : List Ins) (ts : List Typ) (words : Int) (w : World) (hv : InsAt w v l) (htv : TypAt w tv ts) (hlen : l.length ≤ 100000) (htl : ts.length ≤ 100000) :
    Calls Tryz.prog 11 #[v, tv, .int .i64 words] w fun e' w' => e' = .returned (.tuple #[.int .i64 (validateF l ts words).1, .int .i64 (validateF l ts words).2]) ∧ Up w w' := by
  obtain ⟨r, hr⟩ : ∃ r, validateF l ts words = r := ⟨_, rfl⟩
  rw [hr]
  have HV := Lib.hid hv
  have HTV := Lib.hid htv
  obtain ⟨⟨a, cap, rfl⟩, hmax⟩ := hv.slice
  obtain ⟨⟨ta, tcap, rfl⟩, htmax⟩ := htv.slice
  obtain ⟨n, hn⟩ : ∃ n, l.length = n := ⟨_, rfl⟩
  obtain ⟨m, hm⟩ : ∃ m, ts.length = m := ⟨_, rfl⟩
  rw [hn] at hmax hlen ⊢
  rw [hm] at htmax htl ⊢
  have HN := Lib.hid hn
  have HM := Lib.hid hm
  obtain ⟨iw, hiw⟩ : ∃ iw, inB words 0 1048576 = iw := ⟨_, rfl⟩
  have HIW := Lib.hid hiw
  have HR : Hid ((if 65536 < n then (0, 2) else if iw = false then (0, 1) else if ts.all typB then valG n m words l 0 else (0, 10)) = r) := Lib.hid (by rw [← hr, validateF, hn, hm, hiw])
  have hnI : (n : Int) ≤ 100000 := by omega
  have hmI : (m : Int) ≤ 100000 := by omega
  clear hn hm hr hv htv hiw
  by_cases h1 : 65536 < n
  · have h1I : (65536 : Int) < n := by omega
    have HG : Hid (r = (0, 2)) := Lib.hid (by rw [← HR.out, if_pos h1])
    go_enter Tryz.func11, Tryz.ntmps11
    go_wp2
    go_ret2
    exact ⟨ret_ii (by rw [HG.out]) (by rw [HG.out]), Up.refl w⟩
  have h1I : (n : Int) ≤ 65536 := by omega
  cases iw
  · have HG : Hid (r = (0, 1)) := Lib.hid (by rw [← HR.out, if_neg h1, if_pos rfl])
    have hw : words < 0 ∨ 0 ≤ words ∧ 1048576 < words := by have := HIW.out; simp [inB] at this; omega
    rcases hw with hw | ⟨hw1, hw2⟩
    all_goals
      go_enter Tryz.func11, Tryz.ntmps11
      go_wp2
      go_ret2
      exact ⟨ret_ii (by rw [HG.out]) (by rw [HG.out]), Up.refl _⟩
  have hw1 : 0 ≤ words := by have := HIW.out; simp [inB] at this; omega
  have hw2 : words ≤ 1048576 := by have := HIW.out; simp [inB] at this; omega
  have HR2 : Hid ((if ts.all typB then valG n m words l 0 else (0, 10)) = r) := Lib.hid (by have := HR.out; rw [if_neg h1, if_neg (by decide : ¬ (true = false))] at this; exact this)
  clear HR
  go_enter Tryz.func11, Tryz.ntmps11
  go_wp2
  go_loopw [8] (fun iv wr => ∃ (k : Nat), k ≤ m ∧ iv = .int .i64 k ∧ (if (ts.drop k).all typB then valG n m words l 0 else (0, 10)) = r ∧ Up w wr) (fun iv _ => m - (intOf iv).toNat)
  case atStart => exact ⟨0, by omega, rfl, by rw [List.drop_zero]; exact HR2.out, Up.refl _⟩
  case round =>
    rename World => wr
    obtain ⟨k, hk, rfl, hf, hU⟩ := hrel
    have HU := Lib.hid hU
    have HF := Lib.hid hf
    clear hU hf
    by_cases hlt : k < m
    · have hltI : (k : Int) < m := by omega
      obtain ⟨t, htt⟩ : ∃ t, ts.getD k y0 = t := ⟨_, rfl⟩
      obtain ⟨bl, off, ha, hbl, ⟨k0, k1, k2, k3, k4⟩, _⟩ := HTV.out.elem HU.out k (by rw [HM.out]; exact hlt) HM.out (by rw [HM.out]) htt
      subst ha
      have hb1 : bl < wr.heap.size := Nat.lt_of_lt_of_le hbl HU.out.size
      obtain ⟨tb, htb⟩ : ∃ tb, typB t = tb := ⟨_, rfl⟩
      have HTB : Hid (∀ w, Calls Tryz.prog 28 #[typV t] w fun e' w' => e' = .returned (.bool tb) ∧ Up w w') := Lib.hid (fun w => base_Type t _ htb w)
      have HF2 : Hid ((if (tb && (ts.drop (k + 1)).all typB) = true then valG n m words l 0 else (0, 10)) = r) := Lib.hid (by
        have := HF.out
        rw [drop_typ HM.out hlt htt, List.all_cons, htb] at this; exact this)
      obtain ⟨kd, bi, fr, ro, ov⟩ := t
      dsimp only [typV] at HTB k0 k1 k2 k3 k4
      clear htt htb hbl HF
      go_wp2_with fail
      refine (HTB.out _).mono ?_
      rintro e' y ⟨rfl, hy⟩
      have HUy := Lib.hid (HU.out.trans hy)
      clear hy
      cases tb
      · have HG : Hid (r = (0, 10)) := Lib.hid (by rw [← HF2.out]; simp)
        go_wp2
        go_ret2
        exact ⟨ret_ii (by rw [HG.out]) (by rw [HG.out]), HUy.out⟩
      · have HG : Hid ((if (ts.drop (k + 1)).all typB then valG n m words l 0 else (0, 10)) = r) := Lib.hid HF2.out
        go_wp2
        go_roundw
        case rel => exact ⟨k + 1, by omega, by go_num, HG.out, HUy.out⟩
        case measure => simp [intOf]; omega
    · obtain rfl : k = m := by omega
      have HG : Hid (valG n k words l 0 = r) := Lib.hid (by
        have := HF.out
        rw [List.drop_eq_nil_of_le (by rw [HM.out]; omega)] at this
        simpa using this)
      clear HF
      go_wp2
      go_loopw [9] (fun iv wq => ∃ (q : Nat), q ≤ n ∧ iv = .int .i64 q ∧ valG n k words (l.drop q) q = r ∧ Up wr wq) (fun iv _ => n - (intOf iv).toNat)
      case atStart => exact ⟨0, by omega, rfl, by rw [List.drop_zero]; exact HG.out, Up.refl _⟩
      case round =>
        rename World => wq
        obtain ⟨q, hq, rfl, hf, hUq⟩ := hrel
        have HUW := Lib.hid hUq
        have HUq := Lib.hid (HU.out.trans hUq)
        have HF := Lib.hid hf
        clear hUq hf
        by_cases hlt2 : q < n
        · have hltI2 : (q : Int) < n := by omega
          obtain ⟨y, hy⟩ : ∃ y, l.getD q i0 = y := ⟨_, rfl⟩
          obtain ⟨bl, off, ha, hbl, ⟨k0, k1, k2, k3, k4, k5, k6, k7, k8, k9, k10⟩, hyr⟩ := HV.out.elem HUq.out q (by rw [HN.out]; exact hlt2) HN.out (by rw [HN.out]) hy
          subst ha
          have hb1 : bl < wq.heap.size := Nat.lt_of_lt_of_le hbl HUq.out.size
          obtain ⟨vb, hvb⟩ : ∃ vb, valB y n k words = vb := ⟨_, rfl⟩
          obtain ⟨fb, hfb⟩ : ∃ fb, formB y = fb := ⟨_, rfl⟩
          obtain ⟨jj, hjj⟩ : ∃ jj, jumpsB y.1 = jj := ⟨_, rfl⟩
          have HFB : Hid (∀ w, Calls Tryz.prog 19 #[insV y] w fun e' w' => e' = .returned (.bool fb) ∧ Up w w') := Lib.hid (fun w => r47_Formed y hyr _ hfb w)
          have HJJ : Hid (∀ w, Calls Tryz.prog 29 #[.int .i64 y.1] w fun e' w' => e' = .returned (.bool jj) ∧ w' = w) := Lib.hid (fun w => r47_Jumps _ _ hjj w)
          have HVV : Hid ((fb && (if jj then decide (y.2.1 < n) else if y.1 = 10 ∨ y.1 = 11 then decide (y.2.2.2.1 ≤ words) else if y.1 = 13 then decide (y.2.2.2.2.1.1 < k) else true)) = vb) := Lib.hid (by rw [← hvb, valB, wf_form, hfb, hjj])
          have HJ3 : Hid (jj = true → ¬ (y.1 = 10 ∨ y.1 = 11) ∧ ¬ y.1 = 13) := Lib.hid (by rw [← hjj]; simp [jumpsB]; omega)
          have HF2 : Hid ((if vb then valG n k words (l.drop (q + 1)) (q + 1) else ((q : Int), 25)) = r) := Lib.hid (by
            have := HF.out
            rw [drop_ins HN.out hlt2 hy, valG_cons, hvb] at this; exact this)
          obtain ⟨op, A, b, c, ⟨n1, d⟩, kd, bi, fr, ro, ov⟩ := y
          dsimp only [insV] at HFB HJJ HVV HJ3 k0 k1 k2 k3 k4 k5 k6 k7 k8 k9 k10
          clear hy hvb hfb hjj hbl HF hyr
          have HBX : Hid (BoxI (wq.alloc (.cells #[.int .i64 op, .int .i64 A, .int .i64 b, .int .i64 c, .int .i64 n1, .int .i64 d, .int .i64 kd, .int .i64 bi, .int .i64 fr, .int .i64 ro, .int .i64 ov] 42)) wq.heap.size (op, A, b, c, (n1, d), kd, bi, fr, ro, ov)) := Lib.hid (BoxI.new wq (op, A, b, c, (n1, d), kd, bi, fr, ro, ov) rfl)
          go_wp2_with fail
          refine (HFB.out _).mono ?_
          rintro e' z ⟨rfl, hz⟩
          have HUz := Lib.hid ((HUq.out.alloc (.cells #[.int .i64 op, .int .i64 A, .int .i64 b, .int .i64 c, .int .i64 n1, .int .i64 d, .int .i64 kd, .int .i64 bi, .int .i64 fr, .int .i64 ro, .int .i64 ov] 42)).trans hz)
          have HUz2 := Lib.hid (((Up.refl wq).alloc (.cells #[.int .i64 op, .int .i64 A, .int .i64 b, .int .i64 c, .int .i64 n1, .int .i64 d, .int .i64 kd, .int .i64 bi, .int .i64 fr, .int .i64 ro, .int .i64 ov] 42)).trans hz)
          obtain ⟨z0, z1, z2, z3, z4, z5, z6, z7, z8, z9, z10⟩ := (HBX.out.up hz).all
          clear hz k0 k1 k2 k3 k4 k5 k6 k7 k8 k9 k10 HBX
          cases fb
          · have HG : Hid (r = ((q : Int), 25)) := Lib.hid (by have := HVV.out; have h2 := HF2.out; rw [← this] at h2; exact h2.symm)
            go_wp2
            go_ret2
            exact ⟨ret_ii (by rw [HG.out]) (by rw [HG.out]), HUz.out⟩
          cases jj
          all_goals
            go_wp2_with (go_at_call 29; refine (HJJ.out _).mono ?_; rintro e' z9' ⟨rfl, rfl⟩)
            all_goals
              clear HFB HJJ
              have hv := HVV.out
              have hf := HF2.out
              have h3 := HJ3.out
              simp only [Bool.true_and, Bool.false_eq_true, if_false, if_true, false_imp_iff, true_imp_iff] at hv h3
              first
                | (have hvf : vb = false := by
                     cases vb
                     · rfl
                     · exfalso
                       (repeat' split at hv) <;> (try simp at hv) <;> omega
                   subst hvf
                   have HG : Hid (r = ((q : Int), 25)) := Lib.hid hf.symm
                   clear hv hf h3 HVV HF2 HJ3
                   go_ret2
                   exact ⟨ret_ii (by rw [HG.out]) (by rw [HG.out]), HUz.out⟩)
                | (have hvt : vb = true := by
                     cases vb
                     · exfalso
                       (repeat' split at hv) <;> (try simp at hv) <;> omega
                     · rfl
                   subst hvt
                   exact ⟨⟨q + 1, by omega, by go_num, hf, HUW.out.trans HUz2.out⟩, by simp [intOf]; omega⟩)
        · obtain rfl : q = n := by omega
          have HG : Hid (r = (0, 0)) := Lib.hid (by rw [← HF.out, List.drop_eq_nil_of_le (by rw [HN.out]; omega)]; rfl)
          clear HF
          go_wp2
          go_ret2
          exact ⟨ret_ii (by rw [HG.out]) (by rw [HG.out]), HUq.out⟩
end Go.Proofs.YtlglfdhiopnglaaGreatDoor

