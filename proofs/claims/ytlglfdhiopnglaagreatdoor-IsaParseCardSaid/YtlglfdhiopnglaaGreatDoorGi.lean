/-
  Joined by a program: PeJ, PeK, PeL.
-/
import Derived.Test.YtlglfdhiopnglaaGreatDoorPeZ

section
namespace Go.Proofs.YtlglfdhiopnglaaGreatDoor
open Go.ChangeShapes Go.WideShapes Go.ChangeAt Go.RowKit
set_option linter.unusedVariables false
set_option linter.unusedSimpArgs false
set_option maxRecDepth 100000

/-- valid: an instruction in a program of so many instructions, types, words. -/
def valB (x : Ins) (many types words : Int) : Bool :=
  wfB x && (if jumpsB x.1 then decide (x.2.1 < many) else if x.1 = 10 ∨ x.1 = 11 then decide (x.2.2.2.1 ≤ words) else if x.1 = 13 then decide (x.2.2.2.2.1.1 < types) else true)

set_option maxHeartbeats 8000000 in
theorem isa_valid (x : Ins) (hx : InR x) (many types words : Int) (w : World) (ht : ITab w) :
    Calls Tryz.prog 27 #[insV x, .int .i64 many, .int .i64 types, .int .i64 words] w fun e' w' => e' = .returned (.bool (valB x many types words)) ∧ Up w w' := by
  obtain ⟨r, hr⟩ : ∃ r, valB x many types words = r := ⟨_, rfl⟩
  rw [hr]
  obtain ⟨wf, hwf⟩ : ∃ wf, wfB x = wf := ⟨_, rfl⟩
  obtain ⟨jj, hj⟩ : ∃ jj, jumpsB x.1 = jj := ⟨_, rfl⟩
  have HW : Hid (∀ w, ITab w → Calls Tryz.prog 30 #[insV x] w fun e' w' => e' = .returned (.bool wf) ∧ Up w w') := Lib.hid (fun w h => hwf ▸ isa_wellFormed x hx w h)
  have HJ : Hid (∀ w, ITab w → Calls Tryz.prog 45 #[.int .i64 x.1] w fun e' w' => e' = .returned (.bool jj) ∧ Up w w') := Lib.hid (fun w h => hj ▸ isa_jumps x.1 w h)
  have HR : Hid ((wf && (if jj then decide (x.2.1 < many) else if x.1 = 10 ∨ x.1 = 11 then decide (x.2.2.2.1 ≤ words) else if x.1 = 13 then decide (x.2.2.2.2.1.1 < types) else true)) = r) := Lib.hid (by rw [← hr, valB, hwf, hj])
  have HT := Lib.hid ht
  have HB0 : Hid (BoxI (w.alloc (.cells #[.int .i64 x.1, .int .i64 x.2.1, .int .i64 x.2.2.1, .int .i64 x.2.2.2.1, .int .i64 x.2.2.2.2.1.1, .int .i64 x.2.2.2.2.1.2, .int .i64 x.2.2.2.2.2.1, .int .i64 x.2.2.2.2.2.2.1, .int .i64 x.2.2.2.2.2.2.2.1, .int .i64 x.2.2.2.2.2.2.2.2.1, .int .i64 x.2.2.2.2.2.2.2.2.2] 42)) w.heap.size x) := Lib.hid (BoxI.new w x rfl)
  obtain ⟨op, A, b, c, ⟨n, d⟩, kd, bi, fr, ro, ov⟩ := x
  dsimp only [insV] at HW HJ HR HB0
  clear hr hwf hj hx ht
  go_enter Tryz.func27, Tryz.ntmps27
  go_wp2_with fail
  have hU1 := (Up.refl w).alloc (.cells #[.int .i64 op, .int .i64 A, .int .i64 b, .int .i64 c, .int .i64 n, .int .i64 d, .int .i64 kd, .int .i64 bi, .int .i64 fr, .int .i64 ro, .int .i64 ov] 42)
  refine (HW.out _ (HT.out.up hU1)).mono ?_
  rintro e y ⟨rfl, hy⟩
  have HB1 := Lib.hid (HB0.out.up hy)
  have HU := Lib.hid (hU1.trans hy)
  clear hy hU1 HB0
  obtain ⟨x0, x1, x2, x3, x4, x5, x6, x7, x8, x9, x10⟩ := HB1.out.all
  cases wf
  · have HG : Hid (false = r) := Lib.hid HR.out
    go_wp2
    go_ret
    exact ⟨ret_bool HG.out, HU.out⟩
  · go_wp2_with fail
    refine (HJ.out _ (HT.out.up HU.out)).mono ?_
    rintro e y2 ⟨rfl, hy2⟩
    have HB2 := Lib.hid (HB1.out.up hy2)
    have HU2 := Lib.hid (HU.out.trans hy2)
    clear x0 x1 x2 x3 x4 x5 x6 x7 x8 x9 x10 hy2 HB1 HU
    obtain ⟨x0, x1, x2, x3, x4, x5, x6, x7, x8, x9, x10⟩ := HB2.out.all
    cases jj
    all_goals
      go_wp2
      all_goals try simp only [Bool.not_eq_false', Bool.not_eq_true', bne_iff_ne, ne_eq, bne_eq_false_iff_eq, beq_iff_eq, beq_eq_false_iff_ne, decide_eq_true_eq, decide_eq_false_iff_not] at *
      all_goals
        go_ret
        exact ⟨ret_bool (by rw [← HR.out]; first | (simp [*]; done) | (rename_i hq; simp at hq; rcases hq with hq | hq <;> simp [hq]; done) | (simp_all; done)), HU2.out⟩

end Go.Proofs.YtlglfdhiopnglaaGreatDoor
end

section
namespace Go.Proofs.YtlglfdhiopnglaaGreatDoor
open Go.ChangeShapes Go.WideShapes Go.ChangeAt Go.RowKit
set_option linter.unusedVariables false
set_option linter.unusedSimpArgs false
set_option maxRecDepth 100000

/-- The first invalid instruction. -/
def valG (many types words : Int) : List Ins → Int → Int × Int
  | [], _ => (0, 0)
  | x :: r, k => if valB x many types words then valG many types words r (k + 1) else (k, 25)
def validateF (l : List Ins) (ts : List Typ) (words : Int) : Int × Int :=
  if 65536 < l.length then (0, 2) else if inB words 0 1048576 = false then (0, 1) else if ts.all typB then valG l.length ts.length words l 0 else (0, 10)
theorem valG_cons (many types words : Int) (x : Ins) (r : List Ins) (k : Int) : valG many types words (x :: r) k = if valB x many types words then valG many types words r (k + 1) else (k, 25) := rfl
theorem drop_typ {l : List Typ} {k n : Nat} {x : Typ} (hn : l.length = n) (hk : k < n) (hx : l.getD k y0 = x) : l.drop k = x :: l.drop (k + 1) := by
  subst hn
  rw [List.drop_eq_getElem_cons hk, ← hx, List.getD_eq_getElem?_getD, List.getElem?_eq_getElem hk]; rfl

set_option maxHeartbeats 8000000 in
theorem isa_Validate (v tv : Value) (l : List Ins) (ts : List Typ) (words : Int) (w : World) (hv : InsAt w v l) (htv : TypAt w tv ts) (ht : ITab w) (hlen : l.length ≤ 100000) (htl : ts.length ≤ 100000) :
    Calls Tryz.prog 10 #[v, tv, .int .i64 words] w fun e' w' => e' = .returned (.tuple #[.int .i64 (validateF l ts words).1, .int .i64 (validateF l ts words).2]) ∧ Up w w' := by
  obtain ⟨r, hr⟩ : ∃ r, validateF l ts words = r := ⟨_, rfl⟩
  rw [hr]
  have HV := Lib.hid hv
  have HTV := Lib.hid htv
  have HT := Lib.hid ht
  obtain ⟨⟨a, cap, rfl⟩, hmax⟩ := hv.slice
  obtain ⟨⟨ta, tcap, rfl⟩, htmax⟩ := htv.slice
  obtain ⟨n, hn⟩ : ∃ n, l.length = n := ⟨_, rfl⟩
  obtain ⟨m, hm⟩ : ∃ m, ts.length = m := ⟨_, rfl⟩
  rw [hn] at hmax hlen ⊢
  rw [hm] at htmax htl ⊢
  have HN := Lib.hid hn
  have HM := Lib.hid hm
  obtain ⟨iw, hiw⟩ : ∃ iw, inB words 0 1048576 = iw := ⟨_, rfl⟩
  have HIW := Lib.hid hiw
  have HR : Hid ((if 65536 < n then (0, 2) else if iw = false then (0, 1) else if ts.all typB then valG n m words l 0 else (0, 10)) = r) := Lib.hid (by rw [← hr, validateF, hn, hm, hiw])
  have hnI : (n : Int) ≤ 100000 := by omega
  have hmI : (m : Int) ≤ 100000 := by omega
  clear hn hm hr hv htv ht hiw
  by_cases h1 : 65536 < n
  · have h1I : (65536 : Int) < n := by omega
    have HG : Hid (r = (0, 2)) := Lib.hid (by rw [← HR.out, if_pos h1])
    go_enter Tryz.func10, Tryz.ntmps10
    go_wp2
    go_ret2
    exact ⟨ret_ii (by rw [HG.out]) (by rw [HG.out]), Up.refl w⟩
  have h1I : (n : Int) ≤ 65536 := by omega
  cases iw
  · have HG : Hid (r = (0, 1)) := Lib.hid (by rw [← HR.out, if_neg h1, if_pos rfl])
    go_enter Tryz.func10, Tryz.ntmps10
    go_wp2_with (go_at_call 25; refine (isa_within _ _ _ _ HIW.out _).mono ?_; rintro e' x ⟨rfl, rfl⟩)
    go_ret2
    exact ⟨ret_ii (by rw [HG.out]) (by rw [HG.out]), Up.refl _⟩
  have HR2 : Hid ((if ts.all typB then valG n m words l 0 else (0, 10)) = r) := Lib.hid (by have := HR.out; rw [if_neg h1, if_neg (by decide : ¬ (true = false))] at this; exact this)
  clear HR
  go_enter Tryz.func10, Tryz.ntmps10
  go_wp2_with (go_at_call 25; refine (isa_within _ _ _ _ HIW.out _).mono ?_; rintro e' x ⟨rfl, rfl⟩)
  go_loopw [22] (fun iv wr => ∃ (k : Nat), k ≤ m ∧ iv = .int .i64 k ∧ (if (ts.drop k).all typB then valG n m words l 0 else (0, 10)) = r ∧ Up x wr) (fun iv _ => m - (intOf iv).toNat)
  case atStart => exact ⟨0, by omega, rfl, by rw [List.drop_zero]; exact HR2.out, Up.refl _⟩
  case round =>
    rename World => wr
    obtain ⟨k, hk, rfl, hf, hU⟩ := hrel
    have HU := Lib.hid hU
    have HF := Lib.hid hf
    clear hU hf
    by_cases hlt : k < m
    · have hltI : (k : Int) < m := by omega
      obtain ⟨t, htt⟩ : ∃ t, ts.getD k y0 = t := ⟨_, rfl⟩
      obtain ⟨bl, off, ha, hbl, ⟨k0, k1, k2, k3, k4⟩, _⟩ := HTV.out.elem HU.out k (by rw [HM.out]; exact hlt) HM.out (by rw [HM.out]) htt
      subst ha
      have hb1 : bl < wr.heap.size := Nat.lt_of_lt_of_le hbl HU.out.size
      obtain ⟨tb, htb⟩ : ∃ tb, typB t = tb := ⟨_, rfl⟩
      have HTB : Hid (∀ w, Calls Tryz.prog 26 #[typV t] w fun e' w' => e' = .returned (.int .i64 (if tb then 0 else 10)) ∧ Up w w') := Lib.hid (fun w => value_ValidateType t _ (by rw [typE, htb]) w)
      have HF2 : Hid ((if (tb && (ts.drop (k + 1)).all typB) = true then valG n m words l 0 else (0, 10)) = r) := Lib.hid (by
        have := HF.out
        rw [drop_typ HM.out hlt htt, List.all_cons, htb] at this; exact this)
      obtain ⟨kd, bi, fr, ro, ov⟩ := t
      dsimp only [typV] at HTB k0 k1 k2 k3 k4
      clear htt htb hbl HF
      go_wp2_with fail
      refine (HTB.out _).mono ?_
      rintro e' y ⟨rfl, hy⟩
      have HUy := Lib.hid ((HU.out.alloc (.cells #[.int .i64 kd, .int .i64 bi, .int .i64 fr, .int .i64 ro, .int .i64 ov] 40)).trans hy)
      clear hy
      cases tb
      · have HG : Hid (r = (0, 10)) := Lib.hid (by rw [← HF2.out]; simp)
        go_wp2
        go_ret2
        exact ⟨ret_ii (by rw [HG.out]) (by rw [HG.out]), HUy.out⟩
      · have HG : Hid ((if (ts.drop (k + 1)).all typB then valG n m words l 0 else (0, 10)) = r) := Lib.hid HF2.out
        go_wp2
        go_roundw
        case rel => exact ⟨k + 1, by omega, by go_num, HG.out, HUy.out⟩
        case measure => simp [intOf]; omega
    · obtain rfl : k = m := by omega
      have HG : Hid (valG n k words l 0 = r) := Lib.hid (by
        have := HF.out
        rw [List.drop_eq_nil_of_le (by rw [HM.out]; omega)] at this
        simpa using this)
      clear HF
      go_wp2
      go_loopw [32] (fun iv wq => ∃ (q : Nat), q ≤ n ∧ iv = .int .i64 q ∧ valG n k words (l.drop q) q = r ∧ Up wr wq) (fun iv _ => n - (intOf iv).toNat)
      case atStart => exact ⟨0, by omega, rfl, by rw [List.drop_zero]; exact HG.out, Up.refl _⟩
      case round =>
        rename World => wq
        obtain ⟨q, hq, rfl, hf, hUq⟩ := hrel
        have HUW := Lib.hid hUq
        have HUq := Lib.hid (HU.out.trans hUq)
        have HF := Lib.hid hf
        clear hUq hf
        by_cases hlt2 : q < n
        · have hltI2 : (q : Int) < n := by omega
          obtain ⟨y, hy⟩ : ∃ y, l.getD q i0 = y := ⟨_, rfl⟩
          obtain ⟨bl, off, ha, hbl, ⟨k0, k1, k2, k3, k4, k5, k6, k7, k8, k9, k10⟩, hyr⟩ := HV.out.elem HUq.out q (by rw [HN.out]; exact hlt2) HN.out (by rw [HN.out]) hy
          subst ha
          have hb1 : bl < wq.heap.size := Nat.lt_of_lt_of_le hbl HUq.out.size
          obtain ⟨vb, hvb⟩ : ∃ vb, valB y n k words = vb := ⟨_, rfl⟩
          have HVB : Hid (∀ w, ITab w → Calls Tryz.prog 27 #[insV y, .int .i64 (n : Int), .int .i64 (k : Int), .int .i64 words] w fun e' w' => e' = .returned (.bool vb) ∧ Up w w') := Lib.hid (fun w h => hvb ▸ isa_valid y hyr n k words w h)
          have HF2 : Hid ((if vb then valG n k words (l.drop (q + 1)) (q + 1) else ((q : Int), 25)) = r) := Lib.hid (by
            have := HF.out
            rw [drop_ins HN.out hlt2 hy, valG_cons, hvb] at this; exact this)
          obtain ⟨op, A, b, c, ⟨n1, d⟩, kd, bi, fr, ro, ov⟩ := y
          dsimp only [insV] at HVB k0 k1 k2 k3 k4 k5 k6 k7 k8 k9 k10
          clear hy hvb hbl HF hyr
          go_wp2_with fail
          refine (HVB.out _ (HT.out.up (HUq.out.alloc _))).mono ?_
          rintro e' z ⟨rfl, hz⟩
          have HUz := Lib.hid ((HUq.out.alloc (.cells #[.int .i64 op, .int .i64 A, .int .i64 b, .int .i64 c, .int .i64 n1, .int .i64 d, .int .i64 kd, .int .i64 bi, .int .i64 fr, .int .i64 ro, .int .i64 ov] 42)).trans hz)
          have HUz2 := Lib.hid ((Up.refl wq).alloc (.cells #[.int .i64 op, .int .i64 A, .int .i64 b, .int .i64 c, .int .i64 n1, .int .i64 d, .int .i64 kd, .int .i64 bi, .int .i64 fr, .int .i64 ro, .int .i64 ov] 42) |>.trans hz)
          clear hz
          cases vb
          · have HG : Hid (r = ((q : Int), 25)) := Lib.hid HF2.out.symm
            go_wp2
            go_ret2
            exact ⟨ret_ii (by rw [HG.out]) (by rw [HG.out]), HUz.out⟩
          · have HG : Hid (valG n k words (l.drop (q + 1)) (q + 1) = r) := Lib.hid HF2.out
            go_wp2
            go_roundw
            case rel => exact ⟨q + 1, by omega, by go_num, HG.out, HUW.out.trans HUz2.out⟩
            case measure => simp [intOf]; omega
        · obtain rfl : q = n := by omega
          have HG : Hid (r = (0, 0)) := Lib.hid (by rw [← HF.out, List.drop_eq_nil_of_le (by rw [HN.out]; omega)]; rfl)
          clear HF
          go_wp2
          go_ret2
          exact ⟨ret_ii (by rw [HG.out]) (by rw [HG.out]), HUq.out⟩

end Go.Proofs.YtlglfdhiopnglaaGreatDoor
end

section
namespace Go.Proofs.YtlglfdhiopnglaaGreatDoor
open Go.ChangeShapes Go.WideShapes Go.ChangeAt Go.RowKit
set_option linter.unusedVariables false
set_option linter.unusedSimpArgs false
set_option maxRecDepth 100000

def mnS : Nat → ByteArray
  | 0 => ⟨#[104, 97, 108, 116]⟩
  | 1 => ⟨#[105, 110, 116]⟩
  | 2 => ⟨#[109, 111, 118, 101]⟩
  | 3 => ⟨#[97, 100, 100]⟩
  | 4 => ⟨#[109, 117, 108]⟩
  | 5 => ⟨#[109, 105, 110]⟩
  | 6 => ⟨#[109, 97, 120]⟩
  | 7 => ⟨#[106, 117, 109, 112]⟩
  | 8 => ⟨#[106, 108, 116]⟩
  | 9 => ⟨#[99, 111, 110, 115, 116]⟩
  | 10 => ⟨#[108, 111, 97, 100]⟩
  | 11 => ⟨#[115, 116, 111, 114, 101]⟩
  | 12 => ⟨#[111, 112]⟩
  | 13 => ⟨#[99, 97, 115, 116]⟩
  | 14 => ⟨#[116, 101, 115, 116]⟩
  | 15 => ⟨#[116, 111, 105, 110, 116]⟩
  | 16 => ⟨#[102, 114, 111, 109, 105, 110, 116]⟩
  | _ => ⟨#[]⟩
def kdS : Nat → ByteArray
  | 0 => ⟨#[45, 45, 45]⟩
  | 1 => ⟨#[120, 110, 45]⟩
  | 2 => ⟨#[120, 120, 45]⟩
  | 3 => ⟨#[120, 120, 120]⟩
  | 4 => ⟨#[120, 120, 110]⟩
  | 5 => ⟨#[120, 120, 120]⟩
  | 6 => ⟨#[120, 120, 120]⟩
  | 7 => ⟨#[116, 45, 45]⟩
  | 8 => ⟨#[116, 120, 120]⟩
  | 9 => ⟨#[114, 45, 45]⟩
  | 10 => ⟨#[114, 120, 99]⟩
  | 11 => ⟨#[114, 120, 99]⟩
  | 12 => ⟨#[114, 114, 114]⟩
  | 13 => ⟨#[114, 114, 45]⟩
  | 14 => ⟨#[116, 114, 114]⟩
  | 15 => ⟨#[120, 114, 109]⟩
  | 16 => ⟨#[114, 120, 45]⟩
  | _ => ⟨#[]⟩

set_option maxHeartbeats 8000000 in
theorem r47_operands (op : Nat) (h : op < 17) (w : World) :
    Calls Tryz.prog 41 #[.int .i64 (op : Int)] w fun e w' => e = .returned (.string (kdS op)) ∧ Up w w' := by
  rcases (by omega : op = 0 ∨ op = 1 ∨ op = 2 ∨ op = 3 ∨ op = 4 ∨ op = 5 ∨ op = 6 ∨ op = 7 ∨ op = 8 ∨ op = 9 ∨ op = 10 ∨ op = 11 ∨ op = 12 ∨ op = 13 ∨ op = 14 ∨ op = 15 ∨ op = 16) with rfl | rfl | rfl | rfl | rfl | rfl | rfl | rfl | rfl | rfl | rfl | rfl | rfl | rfl | rfl | rfl | rfl
  all_goals
    go_enter Tryz.func41, Tryz.ntmps41
    go_wp2
    go_ret
    exact ⟨rfl, (Up.refl w).alloc _⟩

end Go.Proofs.YtlglfdhiopnglaaGreatDoor
end
