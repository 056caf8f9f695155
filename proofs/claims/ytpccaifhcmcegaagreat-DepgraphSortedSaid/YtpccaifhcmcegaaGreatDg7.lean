/-
  Expressions: Reads of the references 14 and 20.
-/
import Derived.Test.YtpccaifhcmcegaaGreatHe
namespace Go.Proofs.YtpccaifhcmcegaaGreat
set_option linter.unusedSimpArgs false
open Go.ChangeShapes Go.WideShapes Go.ChangeAt Go.RowKit
set_option linter.unusedVariables false
set_option maxRecDepth 100000

def opE : Ex → Int | .mk op _ _ _ _ _ _ _ => op
def nmE : Ex → ByteArray | .mk _ nm _ _ _ _ _ _ => nm
def ixE : Ex → List Ix | .mk _ _ _ _ _ _ ix _ => ix
def nonE (s : ByteArray) : Bool := decide (s ≠ ⟨#[]⟩)
/-- The names that a node reads. -/
def nm1 (e : Ex) : List ByteArray := (if opE e = 3 then [nmE e] else []) ++ ((ixE e).map (·.2.1)).filter nonE
def namesE (e : Ex) : List ByteArray := (nodes e).flatMap nm1
def readsF (e : Ex) : List ByteArray := (namesE e).foldl wth []
theorem exR_fields {n : Nat} {w : World} {f : Nat → Value} {e : Ex} (h : exR n w f e) : ∃ (xa : Option Addr) (xc : Nat), f 0 = .int .i64 (opE e) ∧ f 1 = .string (nmE e) ∧ (nmE e).size ≤ maxLen ∧ f 11 = .slice xa (ixE e).length xc ∧ LsAt 4 72 ixR w (.slice xa (ixE e).length xc) (ixE e) := by
  cases n with
  | zero => exact h.elim
  | succ n =>
    obtain ⟨op, nm, a, d, ty, lin, ix, args⟩ := e
    obtain ⟨h1, ⟨h2, h2'⟩, h3, h4, h5, h6, h7, h8⟩ := h
    obtain ⟨xa, xc, e2, _⟩ := h7.shape
    exact ⟨xa, xc, h1, h2, h2', e2, e2 ▸ h7⟩
theorem foldl_wth_len (l : List ByteArray) : ∀ a : List ByteArray, (l.foldl wth a).length ≤ a.length + l.length := by
  induction l with
  | nil => intro a; simp
  | cons x r ih =>
    intro a
    have h1 := ih (wth a x)
    have h2 := wth_len a x
    rw [List.foldl_cons, List.length_cons]; omega
theorem ixW_sum (l : List Ix) : 0 ≤ (l.map ixW).sum := Nat.zero_le _
mutual
theorem names_len : ∀ e : Ex, ((nodes e).flatMap nm1).length ≤ tot e
  | .mk op nm n d ty lin ix args => by
    have h := namess_len args
    rw [nodes, List.flatMap_cons, List.length_append, tot]
    have : (nm1 (.mk op nm n d ty lin ix args)).length ≤ 1 + ix.length := by
      unfold nm1
      rw [List.length_append]
      have h1 : (((ixE (.mk op nm n d ty lin ix args)).map (·.2.1)).filter nonE).length ≤ ix.length := by
        refine Nat.le_trans (List.length_filter_le _ _) ?_
        rw [List.length_map]; exact Nat.le_refl _
      split
      · simp only [List.length_singleton]; omega
      · simp only [List.length_nil]; omega
    omega
theorem namess_len : ∀ l : List Ex, ((nodess l).flatMap nm1).length ≤ tots l
  | [] => by simp [nodess, tots]
  | e :: r => by
    have := names_len e
    have := namess_len r
    rw [nodess, List.flatMap_append, tots, List.length_append]; omega
end
theorem emp_eq (s : ByteArray) : (s.toList == ([] : List UInt8)) = !nonE s := by
  unfold nonE
  have := tl_eq s ⟨#[]⟩
  rw [show (⟨#[]⟩ : ByteArray).toList = [] by rw [Lib.toList_data]] at this
  rw [this]
  by_cases h : s = ⟨#[]⟩ <;> simp [h]
theorem flat_take {l : List Ex} {i n : Nat} (hn : l.length = n) (hi : i < n) : (l.take (i + 1)).flatMap nm1 = (l.take i).flatMap nm1 ++ nm1 (l[i]'(by omega)) := by
  rw [List.take_succ_eq_append_getElem (by omega), List.flatMap_append]; simp

set_option maxHeartbeats 8000000 in
theorem r14_Reads (N : Nat) (e : Ex) (v : Value) (w : World) (hv : ExAt N w v e) (ht : tot e ≤ 1500) :
    Calls Tryz.prog 30 #[v] w fun e' w' => ∃ u, e' = .returned u ∧ Up w w' ∧ LsN w.heap.size w' u (readsF e) := by
  have HAL := Lib.hid (fun y (hy : Up w y) => r14_All N e v w y hv hy ht)
  have HTL : Hid ((namesE e).length ≤ 1500) := Lib.hid (Nat.le_trans (names_len e) ht)
  have HNL : Hid ((nodes e).length ≤ 1500) := Lib.hid (Nat.le_trans (nodes_len e) ht)
  have HTOT := Lib.hid ht
  obtain ⟨f, hf, hfe⟩ := hv
  subst hf
  clear hfe ht
  unfold readsF
  unfold namesE at HTL ⊢
  obtain ⟨L, hL⟩ : ∃ L, nodes e = L := ⟨_, rfl⟩
  rw [hL] at HAL HTL HNL ⊢
  clear hL
  have HU0 : Hid (Up w (w.alloc (.cells #[f 0, f 1, f 2, f 3, f 4, f 5, f 6, f 7, f 8, f 9, f 10, f 11, f 12] 48))) := Lib.hid ((Up.refl w).alloc _)
  obtain ⟨n, hn⟩ : ∃ n, L.length = n := ⟨_, rfl⟩
  have hnI : (n : Int) ≤ 1500 := by have := HNL.out; omega
  have HN := Lib.hid hn
  rw [hn] at HNL
  clear hn
  go_enter Tryz.func30, Tryz.ntmps30
  go_upto_region 3 with (go_at_call 52; refine (HAL.out _ HU0.out).mono ?_; rintro e' z ⟨u, rfl, hz, hu⟩; obtain ⟨la, lc, rfl, _⟩ := hu.shape; have HLS := Lib.hid hu; have HUZ := Lib.hid (HU0.out.trans hz); clear hz hu)
  rw [HN.out] at HLS ⊢
  go_wp2
  go_loopw [3, 5] (fun ov iv wr => ∃ i : Nat, iv = .int .i64 i ∧ i ≤ n ∧ LsN w.heap.size wr ov (((L.take i).flatMap nm1).foldl wth []) ∧ Up z wr) (fun _ iv _ => n - (intOf iv).toNat)
  case atStart => exact ⟨0, rfl, Nat.zero_le _, by simpa using LsN.nil _ z, Up.refl _⟩
  case round =>
    rename World => wr
    obtain ⟨i, rfl, hi, hout, hup⟩ := hrel
    obtain ⟨oa, oc, rfl, _⟩ := hout.1.shape
    have HO := Lib.hid hout
    have HU := Lib.hid hup
    clear hout hup
    by_cases hlt : i < n
    · have hltI : (i : Int) < n := by omega
      have hi1 : i < L.length := by rw [HN.out]; exact hlt
      obtain ⟨g, o, fx, rfl, hg, hcx, hEx⟩ := HLS.out.elem i hi1
      obtain ⟨xa, xc, x0, x1, x1s, x11, hXS⟩ := exR_fields hEx
      have HFT := Lib.hid (flat_take HN.out hlt)
      have HXU := Lib.hid (HUZ.out.trans HU.out)
      have HXS := Lib.hid (hXS.up ixR_up HXU.out)
      have c0 := cell_up' HU.out hg (hcx 0 (by decide))
      have c1 := cell_up' HU.out hg (hcx 1 (by decide))
      have HC11 := Lib.hid (fun y (hy : Up z y) => x11 ▸ cell_up' hy hg (hcx 11 (by decide)))
      rw [Nat.add_zero] at c0
      rw [x0] at c0
      rw [x1] at c1
      have HBD : Hid ((((L.take i).flatMap nm1).foldl wth []).length + (nm1 L[i]).length ≤ 1500) := Lib.hid (by
        have h1 := foldl_wth_len ((L.take i).flatMap nm1) []
        have h2 : (L.take (i + 1)).flatMap nm1 ++ (L.drop (i + 1)).flatMap nm1 = L.flatMap nm1 := by rw [← List.flatMap_append, List.take_append_drop]
        have h3 := congrArg List.length h2
        rw [List.length_append, HFT.out, List.length_append] at h3
        have := HTL.out
        simp only [List.length_nil] at h1
        omega)
      obtain ⟨ex, hex⟩ : ∃ ex, L[i] = ex := ⟨_, rfl⟩
      rw [hex] at HFT HBD c0 c1 x1s HXS HC11
      obtain ⟨P, hP⟩ : ∃ P, ((L.take i).flatMap nm1).foldl wth [] = P := ⟨_, rfl⟩
      rw [hP] at HO HBD
      have HNX : Hid (((L.take (i + 1)).flatMap nm1).foldl wth [] = ((if opE ex = 3 then [nmE ex] else []) ++ ((ixE ex).map (·.2.1)).filter nonE).foldl wth P) := Lib.hid (by rw [HFT.out, List.foldl_append, hP]; rfl)
      replace HBD : Hid (P.length + ((if opE ex = 3 then [nmE ex] else []) ++ ((ixE ex).map (·.2.1)).filter nonE).length ≤ 1500) := HBD
      rw [hP]
      have hg' := Nat.lt_of_lt_of_le hg HU.out.size
      have hg0 := Lib.hid hg
      clear hcx hEx x0 x1 x11 hXS hi1 hex hP HFT hg
      obtain ⟨op, hop⟩ : ∃ op, opE ex = op := ⟨_, rfl⟩
      obtain ⟨nm, hnm⟩ : ∃ nm, nmE ex = nm := ⟨_, rfl⟩
      obtain ⟨ix, hix⟩ : ∃ ix, ixE ex = ix := ⟨_, rfl⟩
      rw [hop] at HNX HBD c0
      rw [hnm] at HNX HBD c1 x1s
      rw [hix] at HNX HBD HXS HC11
      clear hop hnm hix
      have HWR := Lib.hid (Up.refl wr)
      by_cases h3 : op = 3
      · have q3 : (op == 3) = true := by simpa using h3
        have HNX1 : Hid (((L.take (i + 1)).flatMap nm1).foldl wth [] = ((ix.map (·.2.1)).filter nonE).foldl wth (wth P nm)) := Lib.hid (by rw [HNX.out, if_pos h3]; rfl)
        have HBD1 : Hid ((wth P nm).length + ((ix.map (·.2.1)).filter nonE).length ≤ 1501) := Lib.hid (by
          have h1 := HBD.out
          rw [if_pos h3, List.length_append, List.length_singleton] at h1
          have := wth_len P nm
          omega)
        have HWT := Lib.hid (r14_With _ _ _ nm wr (HUZ.out.trans HU.out).size HO.out x1s (by have := HBD.out; omega))
        subst h3
        clear HNX HBD x1s
        go_upto_region 8 with (go_at_call 53; refine HWT.out.mono ?_; rintro e' Y0 ⟨u1, rfl, hy1, hu1⟩; obtain ⟨_, _, rfl, _⟩ := hu1.1.shape; have HO1 := Lib.hid hu1; have HWY := Lib.hid hy1; clear hu1 hy1)
        have HU1 := Lib.hid (HU.out.trans HWY.out)
        have HXW := Lib.hid (fun y (hy : Up Y0 y) => HWY.out.trans hy)
        clear c0 c1 hg' HWT
        generalize wth P nm = P1 at *
        obtain ⟨xn, hxn⟩ : ∃ q, ix.length = q := ⟨_, rfl⟩
        have hxI : (xn : Int) ≤ 140737488351232 := by have := HXS.out.bytes; omega
        have HXN := Lib.hid hxn
        rw [hxn] at HXS HC11
        have HPL : Hid (P1.length ≤ 1501) := Lib.hid (by have := HBD1.out; omega)
        clear hxn
        go_wp2
        go_loopw [3, 6] (fun ov kv y => ∃ k : Nat, kv = .int .i64 k ∧ k ≤ xn ∧ LsN w.heap.size y ov ((((ix.take k).map (·.2.1)).filter nonE).foldl wth P1) ∧ Up Y0 y) (fun _ kv _ => xn - (intOf kv).toNat)
        case atStart => exact ⟨0, rfl, Nat.zero_le _, HO1.out, Up.refl _⟩
        case round =>
          rename World => y
          obtain ⟨k, rfl, hk, hout, hup⟩ := hrel
          obtain ⟨Q, hQ⟩ : ∃ Q, (((ix.take k).map (·.2.1)).filter nonE).foldl wth P1 = Q := ⟨_, rfl⟩
          have HQ := Lib.hid hQ
          rw [hQ] at hout
          obtain ⟨pa, pc, rfl, hpc⟩ := hout.1.shape
          obtain ⟨qn, hqn⟩ : ∃ q, Q.length = q := ⟨_, rfl⟩
          rw [hqn] at hout ⊢
          have HQN := Lib.hid hqn
          have HO2 := Lib.hid hout
          clear hQ hqn hpc
          have HUY := Lib.hid (HU1.out.trans hup)
          have HUK := Lib.hid hup
          have c11 := HC11.out y HUY.out
          have hgy := Nat.lt_of_lt_of_le hg0.out HUY.out.size
          clear hout hup
          by_cases hlk : k < xn
          · have hlkI : (k : Int) < xn := by omega
            have hk1 : k < ix.length := by rw [HXN.out]; exact hlk
            obtain ⟨g2, o2, ya2, yc2, ta2, tc2, rfl, hg2, d1, d2, d3, hy1', ht1', hsz⟩ := HXS.out.ix k hk1
            have HYX := Lib.hid (HXW.out y HUK.out)
            replace d2 := cell_up' HYX.out hg2 d2
            replace hg2 := Nat.lt_of_lt_of_le hg2 HYX.out.size
            have HFK : Hid (((ix.take (k + 1)).map (·.2.1)).filter nonE = ((ix.take k).map (·.2.1)).filter nonE ++ (if nonE ix[k].2.1 = true then [ix[k].2.1] else [])) := Lib.hid (by
              rw [List.take_succ_eq_append_getElem hk1, List.map_append, List.filter_append]
              congr 1
              simp only [List.map_cons, List.map_nil, List.filter_cons, List.filter_nil])
            obtain ⟨s, hs⟩ : ∃ s, ix[k].2.1 = s := ⟨_, rfl⟩
            rw [hs] at d2 hsz
            have HFS : Hid (((ix.take (k + 1)).map (·.2.1)).filter nonE = ((ix.take k).map (·.2.1)).filter nonE ++ (if nonE s = true then [s] else [])) := Lib.hid (by rw [HFK.out, hs])
            clear hs HFK d1 d3 hy1' ht1'
            have q := emp_eq s
            have q2 : (s.toList != ([] : List UInt8)) = nonE s := by rw [bne, q, Bool.not_not]
            obtain ⟨b, hb⟩ : ∃ b, nonE s = b := ⟨_, rfl⟩
            rw [hb] at q q2
            cases b
            · have HNK : Hid ((((ix.take (k + 1)).map (·.2.1)).filter nonE).foldl wth P1 = Q) := Lib.hid (by rw [HFS.out, hb, if_neg (by decide), List.append_nil]; exact HQ.out)
              clear hb hk1 HFS
              go_wp2
              go_roundw
              case rel => exact ⟨k + 1, by go_num, by omega, by rw [HNK.out]; exact HO2.out, HUK.out⟩
              case measure => simp [intOf]; omega
            · have HNK : Hid ((((ix.take (k + 1)).map (·.2.1)).filter nonE).foldl wth P1 = wth Q s) := Lib.hid (by rw [HFS.out, hb, if_pos rfl, List.foldl_append, HQ.out]; rfl)
              have HLK : Hid (Q.length ≤ 100000) := Lib.hid (by
                rw [← HQ.out]
                have h1 := foldl_wth_len (((ix.take k).map (·.2.1)).filter nonE) P1
                have h2 : (((ix.take k).map (·.2.1)).filter nonE).length ≤ ((ix.map (·.2.1)).filter nonE).length := by
                  conv => rhs; rw [← List.take_append_drop k ix, List.map_append, List.filter_append, List.length_append]
                  omega
                have := HBD1.out
                omega)
              have HWT := Lib.hid (r14_With _ _ _ s y (HUZ.out.trans HUY.out).size HO2.out hsz HLK.out)
              have HSZ := Lib.hid hsz
              clear hsz
              clear hb hk1 HFS
              go_wp2_with (go_at_call 53; refine HWT.out.mono ?_; rintro e' y2 ⟨u2, rfl, hy2, hu2⟩; have HU2 := Lib.hid hu2; have HY2 := Lib.hid (HUK.out.trans hy2); clear hu2 hy2)
              go_roundw
              case rel => exact ⟨k + 1, by go_num, by omega, by rw [HNK.out]; exact HU2.out, HY2.out⟩
              case measure => simp [intOf]; omega
          · obtain rfl : k = xn := by omega
            have HNK : Hid (((L.take (i + 1)).flatMap nm1).foldl wth [] = Q) := Lib.hid (by
            have e : ix.take k = ix := List.take_of_length_le (by rw [HXN.out]; exact Nat.le_refl _)
            rw [HNX1.out, ← HQ.out, e])
            go_wp2
            go_roundw
            case rel => exact ⟨i + 1, by go_num, by omega, by rw [HNK.out]; exact HO2.out, HUY.out⟩
            case measure => simp [intOf]; omega
      · have q3 : (op == 3) = false := by simpa using h3
        have HNX1 : Hid (((L.take (i + 1)).flatMap nm1).foldl wth [] = ((ix.map (·.2.1)).filter nonE).foldl wth P) := Lib.hid (by rw [HNX.out, if_neg h3]; rfl)
        have HBD1 : Hid (P.length + ((ix.map (·.2.1)).filter nonE).length ≤ 1501) := Lib.hid (by
          have h1 := HBD.out
          rw [if_neg h3, List.nil_append] at h1
          omega)
        clear HNX HBD x1s h3
        go_upto_region 8 with fail
        have HU1 := Lib.hid HU.out
        have HXW := Lib.hid (fun y (hy : Up wr y) => hy)
        have HO1 := Lib.hid HO.out
        clear c0 c1 hg'
        generalize P = P1 at *
        obtain ⟨xn, hxn⟩ : ∃ q, ix.length = q := ⟨_, rfl⟩
        have hxI : (xn : Int) ≤ 140737488351232 := by have := HXS.out.bytes; omega
        have HXN := Lib.hid hxn
        rw [hxn] at HXS HC11
        have HPL : Hid (P1.length ≤ 1501) := Lib.hid (by have := HBD1.out; omega)
        clear hxn
        go_wp2
        go_loopw [3, 6] (fun ov kv y => ∃ k : Nat, kv = .int .i64 k ∧ k ≤ xn ∧ LsN w.heap.size y ov ((((ix.take k).map (·.2.1)).filter nonE).foldl wth P1) ∧ Up wr y) (fun _ kv _ => xn - (intOf kv).toNat)
        case atStart => exact ⟨0, rfl, Nat.zero_le _, HO1.out, Up.refl _⟩
        case round =>
          rename World => y
          obtain ⟨k, rfl, hk, hout, hup⟩ := hrel
          obtain ⟨Q, hQ⟩ : ∃ Q, (((ix.take k).map (·.2.1)).filter nonE).foldl wth P1 = Q := ⟨_, rfl⟩
          have HQ := Lib.hid hQ
          rw [hQ] at hout
          obtain ⟨pa, pc, rfl, hpc⟩ := hout.1.shape
          obtain ⟨qn, hqn⟩ : ∃ q, Q.length = q := ⟨_, rfl⟩
          rw [hqn] at hout ⊢
          have HQN := Lib.hid hqn
          have HO2 := Lib.hid hout
          clear hQ hqn hpc
          have HUY := Lib.hid (HU1.out.trans hup)
          have HUK := Lib.hid hup
          have c11 := HC11.out y HUY.out
          have hgy := Nat.lt_of_lt_of_le hg0.out HUY.out.size
          clear hout hup
          by_cases hlk : k < xn
          · have hlkI : (k : Int) < xn := by omega
            have hk1 : k < ix.length := by rw [HXN.out]; exact hlk
            obtain ⟨g2, o2, ya2, yc2, ta2, tc2, rfl, hg2, d1, d2, d3, hy1', ht1', hsz⟩ := HXS.out.ix k hk1
            have HYX := Lib.hid (HXW.out y HUK.out)
            replace d2 := cell_up' HYX.out hg2 d2
            replace hg2 := Nat.lt_of_lt_of_le hg2 HYX.out.size
            have HFK : Hid (((ix.take (k + 1)).map (·.2.1)).filter nonE = ((ix.take k).map (·.2.1)).filter nonE ++ (if nonE ix[k].2.1 = true then [ix[k].2.1] else [])) := Lib.hid (by
              rw [List.take_succ_eq_append_getElem hk1, List.map_append, List.filter_append]
              congr 1
              simp only [List.map_cons, List.map_nil, List.filter_cons, List.filter_nil])
            obtain ⟨s, hs⟩ : ∃ s, ix[k].2.1 = s := ⟨_, rfl⟩
            rw [hs] at d2 hsz
            have HFS : Hid (((ix.take (k + 1)).map (·.2.1)).filter nonE = ((ix.take k).map (·.2.1)).filter nonE ++ (if nonE s = true then [s] else [])) := Lib.hid (by rw [HFK.out, hs])
            clear hs HFK d1 d3 hy1' ht1'
            have q := emp_eq s
            have q2 : (s.toList != ([] : List UInt8)) = nonE s := by rw [bne, q, Bool.not_not]
            obtain ⟨b, hb⟩ : ∃ b, nonE s = b := ⟨_, rfl⟩
            rw [hb] at q q2
            cases b
            · have HNK : Hid ((((ix.take (k + 1)).map (·.2.1)).filter nonE).foldl wth P1 = Q) := Lib.hid (by rw [HFS.out, hb, if_neg (by decide), List.append_nil]; exact HQ.out)
              clear hb hk1 HFS
              go_wp2
              go_roundw
              case rel => exact ⟨k + 1, by go_num, by omega, by rw [HNK.out]; exact HO2.out, HUK.out⟩
              case measure => simp [intOf]; omega
            · have HNK : Hid ((((ix.take (k + 1)).map (·.2.1)).filter nonE).foldl wth P1 = wth Q s) := Lib.hid (by rw [HFS.out, hb, if_pos rfl, List.foldl_append, HQ.out]; rfl)
              have HLK : Hid (Q.length ≤ 100000) := Lib.hid (by
                rw [← HQ.out]
                have h1 := foldl_wth_len (((ix.take k).map (·.2.1)).filter nonE) P1
                have h2 : (((ix.take k).map (·.2.1)).filter nonE).length ≤ ((ix.map (·.2.1)).filter nonE).length := by
                  conv => rhs; rw [← List.take_append_drop k ix, List.map_append, List.filter_append, List.length_append]
                  omega
                have := HBD1.out
                omega)
              have HWT := Lib.hid (r14_With _ _ _ s y (HUZ.out.trans HUY.out).size HO2.out hsz HLK.out)
              have HSZ := Lib.hid hsz
              clear hsz
              clear hb hk1 HFS
              go_wp2_with (go_at_call 53; refine HWT.out.mono ?_; rintro e' y2 ⟨u2, rfl, hy2, hu2⟩; have HU2 := Lib.hid hu2; have HY2 := Lib.hid (HUK.out.trans hy2); clear hu2 hy2)
              go_roundw
              case rel => exact ⟨k + 1, by go_num, by omega, by rw [HNK.out]; exact HU2.out, HY2.out⟩
              case measure => simp [intOf]; omega
          · obtain rfl : k = xn := by omega
            have HNK : Hid (((L.take (i + 1)).flatMap nm1).foldl wth [] = Q) := Lib.hid (by
            have e : ix.take k = ix := List.take_of_length_le (by rw [HXN.out]; exact Nat.le_refl _)
            rw [HNX1.out, ← HQ.out, e])
            go_wp2
            go_roundw
            case rel => exact ⟨i + 1, by go_num, by omega, by rw [HNK.out]; exact HO2.out, HUY.out⟩
            case measure => simp [intOf]; omega
    · obtain rfl : i = n := by omega
      have HTK : Hid (L.take i = L) := Lib.hid (List.take_of_length_le (by rw [HN.out]; exact Nat.le_refl _))
      rw [HTK.out] at HO ⊢
      go_wp2
      go_ret
      exact ⟨_, rfl, HUZ.out.trans HU.out, HO.out⟩
end Go.Proofs.YtpccaifhcmcegaaGreat

