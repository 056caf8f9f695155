/-
  isa: ValidateType, fits, the table of opcodes, jumps, operands. Printed by mkPeX.py.
-/
import Derived.Test.YtlglfdhiopnglaaGreatDoorPeW
import Derived.Test.YtlglfdhiopnglaaGreatDoorGb
namespace Go.Proofs.YtlglfdhiopnglaaGreatDoor
open Go.ChangeShapes Go.WideShapes Go.ChangeAt Go.RowKit
set_option linter.unusedVariables false
set_option linter.unusedSimpArgs false
set_option maxRecDepth 100000

/-- fits: the kinds are the program's own numbers. -/
def fitsB (x : Ins) (k : Int) : Bool :=
  if k = 1 ∨ k = 4 then inB x.2.1 0 255 else if k = 2 ∨ k = 5 then inB x.2.2.1 0 255 else if k = 3 ∨ k = 6 then inB x.2.2.2.1 0 255 else if k = 7 then inB x.2.1 0 65535
  else if k = 8 then inB x.2.2.1 (-2147483647) 2147483647 else if k = 9 then inB x.2.2.2.1 (-2147483647) 2147483647 else if k = 10 then inB x.2.2.2.2.1.1 0 x.2.2.2.1 else if k = 11 then inB x.2.2.2.1 0 1048576
  else if k = 12 then inB x.2.2.2.2.1.1 0 255 else if k = 13 then inB x.2.2.2.1 1 4096 else if k = 14 then validF x.2.2.2.2.1.1 x.2.2.2.2.1.2 else if k = 15 then inB x.2.2.2.2.1.1 4 10 else if k = 16 then inB x.2.2.2.2.1.1 13 15 else typB x.2.2.2.2.2

set_option maxHeartbeats 4000000 in
theorem value_ValidateType (t : Typ) (e : Int) (he : typE t = e) (w : World) :
    Calls Tryz.prog 26 #[typV t] w fun e' w' => e' = .returned (.int .i64 e) ∧ Up w w' := by
  obtain ⟨p, hp⟩ : ∃ p, plainB t = p := ⟨_, rfl⟩
  obtain ⟨f, hf⟩ : ∃ f, fixE t = f := ⟨_, rfl⟩
  have HP := Lib.hid (fun w => value_plain t p hp w)
  have HF := Lib.hid (fun w => fixed_ValidateType t f hf w)
  have HE : Hid ((if ((decide (t.1 = 1 ∨ t.1 = 3) && p) || decide (f = 0)) = true then (0 : Int) else 10) = e) := Lib.hid (by
    rw [← he, typE, typB, hp, ← hf]
    have : decide (fixE t = 0) = fixB t := by unfold fixE; cases fixB t <;> simp
    rw [this])
  have HK : Hid (f = 0 → t.1 = 2) := Lib.hid (fun h0 => by
    subst h0
    unfold fixE at hf
    split at hf
    · rename_i hb; simp [fixB] at hb; exact hb.1
    · cases hf)
  obtain ⟨k, b, fr, ro, ov⟩ := t
  have HV := Lib.hid ((Up.refl w).alloc (.cells #[.int .i64 k, .int .i64 b, .int .i64 fr, .int .i64 ro, .int .i64 ov] 40))
  dsimp only at HP HF HE HK
  clear he hp hf
  go_enter Tryz.func26, Tryz.ntmps26
  go_wp2_with (first | (go_at_call 49; refine (HP.out _).mono ?_; rintro e' x ⟨rfl, hx⟩; have HV := Lib.hid (HV.out.trans hx); clear hx) | (go_at_call 50; refine (HF.out _).mono ?_; rintro e' x ⟨rfl, hx⟩; have HV := Lib.hid (HV.out.trans hx); clear hx))
  all_goals try simp only [Bool.not_eq_false', Bool.not_eq_true', bne_iff_ne, ne_eq, bne_eq_false_iff_eq, beq_iff_eq, beq_eq_false_iff_ne, decide_eq_true_eq, decide_eq_false_iff_not] at *
  all_goals
    go_ret
    exact ⟨ret_int (by have h1 := HE.out; have h2 := HK.out; rw [← h1]; simp_all; try omega), HV.out⟩


set_option maxHeartbeats 8000000 in
theorem isa_fits (x : Ins) (k : Int) (hx : InR x) (e : Bool) (he : fitsB x k = e) (w : World) :
    Calls Tryz.prog 52 #[insV x, .int .i64 k] w fun e' w' => e' = .returned (.bool e) ∧ Up w w' := by
  obtain ⟨op, A, b, c, ⟨n, d⟩, kd, bi, fr, ro, ov⟩ := x
  have hn := hx 4
  have hn : R64 n := hn
  obtain ⟨hn1, hn2⟩ := hn
  have HFV := Lib.hid (fun r hr w => frac_Valid n d r hr hn1 hn2 w)
  have HTY := Lib.hid (fun r hr w => value_ValidateType (kd, bi, fr, ro, ov) r hr w)
  have HE := Lib.hid he
  have HV := Lib.hid ((Up.refl w).alloc (.cells #[.int .i64 op, .int .i64 A, .int .i64 b, .int .i64 c, .int .i64 n, .int .i64 d, .int .i64 kd, .int .i64 bi, .int .i64 fr, .int .i64 ro, .int .i64 ov] 42))
  clear he hx hn1 hn2
  go_enter Tryz.func52, Tryz.ntmps52
  go_wp2_with (first | (go_at_call 25; refine (isa_within _ _ _ _ rfl _).mono ?_; rintro e' x ⟨rfl, rfl⟩) | (go_at_call 76; refine (HFV.out _ rfl _).mono ?_; rintro e' x ⟨rfl, hx⟩; have HV := Lib.hid (HV.out.trans hx); clear hx) | (go_at_call 26; refine (HTY.out _ rfl _).mono ?_; rintro e' x ⟨rfl, hx⟩; have HV := Lib.hid (HV.out.trans hx); clear hx))
  all_goals try simp only [Bool.not_eq_false', Bool.not_eq_true', bne_iff_ne, ne_eq, bne_eq_false_iff_eq, beq_iff_eq, beq_eq_false_iff_ne, decide_eq_true_eq, decide_eq_false_iff_not] at *
  all_goals
    go_ret
    exact ⟨ret_bool (by rw [← HE.out, fitsB]; simp [*, inB, typE]; try first | omega | (split <;> simp_all)), HV.out⟩


/-- The kinds of an opcode's operands, as the table lists them. -/
def tabL : List (List Int) := [[0, 0, 0, 0, 0], [1, 8, 0, 0, 0], [1, 2, 0, 0, 0], [1, 2, 3, 0, 0], [1, 2, 9, 0, 0], [1, 2, 3, 0, 0], [1, 2, 3, 0, 0], [7, 0, 0, 0, 0], [7, 2, 3, 0, 0], [4, 14, 0, 0, 0], [4, 2, 10, 11, 0], [4, 2, 10, 11, 0], [15, 4, 5, 6, 17], [4, 5, 12, 17, 0], [16, 7, 5, 6, 17], [1, 5, 13, 0, 0], [4, 2, 0, 0, 0]]
def tabF (op : Nat) : List Int := tabL.getD op []
/-- The table lies in the world. -/
def ITab (w : World) : Prop := 0 < w.heap.size ∧ ∀ i j, i < 17 → j < 5 → w.cell? ⟨0, i * 6 + 1 + j, none⟩ = some (.int .i64 ((tabF i).getD j 0))
theorem ITab.up {w w' : World} (h : ITab w) (u : Up w w') : ITab w' := ⟨Nat.lt_of_lt_of_le h.1 u.size, fun i j hi hj => (u.cell _ _ h.1).trans (h.2 i j hi hj)⟩
theorem tabF_len (op : Nat) (h : op < 17) : (tabF op).length = 5 := by
  have : ∀ i, i < 17 → (tabF i).length = 5 := by decide
  exact this op h

theorem tabF_five (op : Nat) (h : op < 17) : ∃ a b c d e, tabF op = [a, b, c, d, e] := by
  have := tabF_len op h
  match hm : tabF op, this with
  | [a, b, c, d, e], _ => exact ⟨a, b, c, d, e, rfl⟩
theorem tabF_jumps (op : Nat) (h : op < 17) : decide ((7 : Int) ∈ tabF op) = jumpsB op := by
  have : ∀ i, i < 17 → decide ((7 : Int) ∈ tabF i) = jumpsB i := by decide
  exact this op h

set_option maxHeartbeats 8000000 in
theorem isa_jumps (op : Int) (w : World) (ht : ITab w) :
    Calls Tryz.prog 45 #[.int .i64 op] w fun e' w' => e' = .returned (.bool (jumpsB op)) ∧ Up w w' := by
  obtain ⟨r, hr⟩ : ∃ r, jumpsB op = r := ⟨_, rfl⟩
  rw [hr]
  by_cases hk : 0 ≤ op ∧ op < 17
  · obtain ⟨o, rfl⟩ : ∃ o : Nat, op = o := ⟨op.toNat, by omega⟩
    have ho : o < 17 := by omega
    have hoI : (o : Int) < 17 := by omega
    have hkn : knownB o = true := by simp [knownB]; omega
    have HKN := Lib.hid hkn
    have h0 := ht.1
    have t0 := ht.2 o 0 ho (by omega)
    have t1 := ht.2 o 1 ho (by omega)
    have t2 := ht.2 o 2 ho (by omega)
    have t3 := ht.2 o 3 ho (by omega)
    have t4 := ht.2 o 4 ho (by omega)
    have hj := tabF_jumps o ho
    obtain ⟨a0, a1, a2, a3, a4, htab⟩ := tabF_five o ho
    rw [htab] at t0 t1 t2 t3 t4 hj
    rw [hr] at hj
    have HJ := Lib.hid hj
    have t0 : w.cell? ⟨0, o * 6 + 1 + 0, none⟩ = some (.int .i64 a0) := t0
    have t1 : w.cell? ⟨0, o * 6 + 1 + 1, none⟩ = some (.int .i64 a1) := t1
    have t2 : w.cell? ⟨0, o * 6 + 1 + 2, none⟩ = some (.int .i64 a2) := t2
    have t3 : w.cell? ⟨0, o * 6 + 1 + 3, none⟩ = some (.int .i64 a3) := t3
    have t4 : w.cell? ⟨0, o * 6 + 1 + 4, none⟩ = some (.int .i64 a4) := t4
    have i0 : ∀ w, (Instr.index 65 (.agg #[.int .i64 a0, .int .i64 a1, .int .i64 a2, .int .i64 a3, .int .i64 a4]) (.int .i64 0)).run Tryz.prog w = .ok (.int .i64 a0) w := fun _ => by kernel_rfl
    have i1 : ∀ w, (Instr.index 65 (.agg #[.int .i64 a0, .int .i64 a1, .int .i64 a2, .int .i64 a3, .int .i64 a4]) (.int .i64 1)).run Tryz.prog w = .ok (.int .i64 a1) w := fun _ => by kernel_rfl
    have i2 : ∀ w, (Instr.index 65 (.agg #[.int .i64 a0, .int .i64 a1, .int .i64 a2, .int .i64 a3, .int .i64 a4]) (.int .i64 2)).run Tryz.prog w = .ok (.int .i64 a2) w := fun _ => by kernel_rfl
    have i3 : ∀ w, (Instr.index 65 (.agg #[.int .i64 a0, .int .i64 a1, .int .i64 a2, .int .i64 a3, .int .i64 a4]) (.int .i64 3)).run Tryz.prog w = .ok (.int .i64 a3) w := fun _ => by kernel_rfl
    have i4 : ∀ w, (Instr.index 65 (.agg #[.int .i64 a0, .int .i64 a1, .int .i64 a2, .int .i64 a3, .int .i64 a4]) (.int .i64 4)).run Tryz.prog w = .ok (.int .i64 a4) w := fun _ => by kernel_rfl
    clear hkn hj hr htab
    go_enter Tryz.func45, Tryz.ntmps45
    go_wp2_with (go_at_call 36; refine (isa_known _ _ HKN.out _).mono ?_; rintro e' x ⟨rfl, rfl⟩)
    go_loopw [12] (fun iv wr => ∃ (k : Nat), k ≤ 5 ∧ iv = .int .i64 k ∧ decide ((7 : Int) ∈ ([a0, a1, a2, a3, a4] : List Int).drop k) = r ∧ wr = x) (fun iv _ => 5 - (intOf iv).toNat)
    case atStart => exact ⟨0, by omega, rfl, HJ.out, by trivial⟩
    case round =>
      rename World => wr
      obtain ⟨k, hk5, rfl, hf, hw⟩ := hrel
      subst hw
      have HF := Lib.hid hf
      clear hf
      rcases (by omega : k = 0 ∨ k = 1 ∨ k = 2 ∨ k = 3 ∨ k = 4 ∨ k = 5) with rfl | rfl | rfl | rfl | rfl | rfl
      · by_cases h7 : a0 = 7
        · subst h7
          have HG : Hid (true = r) := Lib.hid (by rw [← HF.out]; simp)
          go_wp2
          go_ret
          exact ⟨ret_bool HG.out, Up.refl _⟩
        · have h7b : (a0 == 7) = false := by simpa using h7
          have h7' : ¬ (7 : Int) = a0 := fun e => h7 e.symm
          have HG : Hid (decide ((7 : Int) ∈ ([a0, a1, a2, a3, a4] : List Int).drop 1) = r) := Lib.hid (by rw [← HF.out]; simp [h7'])
          go_wp2
          go_roundw
          case rel => exact ⟨1, by omega, by first | rfl | go_num, HG.out, by trivial⟩
          case measure => simp [intOf]
      · by_cases h7 : a1 = 7
        · subst h7
          have HG : Hid (true = r) := Lib.hid (by rw [← HF.out]; simp)
          go_wp2
          go_ret
          exact ⟨ret_bool HG.out, Up.refl _⟩
        · have h7b : (a1 == 7) = false := by simpa using h7
          have h7' : ¬ (7 : Int) = a1 := fun e => h7 e.symm
          have HG : Hid (decide ((7 : Int) ∈ ([a0, a1, a2, a3, a4] : List Int).drop 2) = r) := Lib.hid (by rw [← HF.out]; simp [h7'])
          go_wp2
          go_roundw
          case rel => exact ⟨2, by omega, by first | rfl | go_num, HG.out, by trivial⟩
          case measure => simp [intOf]
      · by_cases h7 : a2 = 7
        · subst h7
          have HG : Hid (true = r) := Lib.hid (by rw [← HF.out]; simp)
          go_wp2
          go_ret
          exact ⟨ret_bool HG.out, Up.refl _⟩
        · have h7b : (a2 == 7) = false := by simpa using h7
          have h7' : ¬ (7 : Int) = a2 := fun e => h7 e.symm
          have HG : Hid (decide ((7 : Int) ∈ ([a0, a1, a2, a3, a4] : List Int).drop 3) = r) := Lib.hid (by rw [← HF.out]; simp [h7'])
          go_wp2
          go_roundw
          case rel => exact ⟨3, by omega, by first | rfl | go_num, HG.out, by trivial⟩
          case measure => simp [intOf]
      · by_cases h7 : a3 = 7
        · subst h7
          have HG : Hid (true = r) := Lib.hid (by rw [← HF.out]; simp)
          go_wp2
          go_ret
          exact ⟨ret_bool HG.out, Up.refl _⟩
        · have h7b : (a3 == 7) = false := by simpa using h7
          have h7' : ¬ (7 : Int) = a3 := fun e => h7 e.symm
          have HG : Hid (decide ((7 : Int) ∈ ([a0, a1, a2, a3, a4] : List Int).drop 4) = r) := Lib.hid (by rw [← HF.out]; simp [h7'])
          go_wp2
          go_roundw
          case rel => exact ⟨4, by omega, by first | rfl | go_num, HG.out, by trivial⟩
          case measure => simp [intOf]
      · by_cases h7 : a4 = 7
        · subst h7
          have HG : Hid (true = r) := Lib.hid (by rw [← HF.out]; simp)
          go_wp2
          go_ret
          exact ⟨ret_bool HG.out, Up.refl _⟩
        · have h7b : (a4 == 7) = false := by simpa using h7
          have h7' : ¬ (7 : Int) = a4 := fun e => h7 e.symm
          have HG : Hid (decide ((7 : Int) ∈ ([a0, a1, a2, a3, a4] : List Int).drop 5) = r) := Lib.hid (by rw [← HF.out]; simp [h7'])
          go_wp2
          go_roundw
          case rel => exact ⟨5, by omega, by first | rfl | go_num, HG.out, by trivial⟩
          case measure => simp [intOf]
      · have HG : Hid (false = r) := Lib.hid HF.out
        go_wp2
        go_ret
        exact ⟨ret_bool HG.out, Up.refl _⟩
  · have hkn : knownB op = false := by simp [knownB]; omega
    have HKN := Lib.hid hkn
    have HG : Hid (false = r) := Lib.hid (by rw [← hr]; simp [jumpsB]; omega)
    clear hkn hr
    go_enter Tryz.func45, Tryz.ntmps45
    go_wp2_with (go_at_call 36; refine (isa_known _ _ HKN.out _).mono ?_; rintro e' x ⟨rfl, rfl⟩)
    go_ret
    exact ⟨ret_bool HG.out, Up.refl _⟩


/-- An operand that is not there: none; rC of a negation. -/
def skB (t : Int) (x : Ins) : Bool := decide (t = 0) || (decide (t = 6) && (decide (x.1 = 12) && decide (x.2.2.2.2.1.1 = 8)))
def opsF (x : Ins) : List Int := (tabF x.1.toNat).filter fun t => !skB t x
theorem filter_drop {l : List Int} {k n : Nat} {t : Int} (p : Int → Bool) (hn : l.length = n) (hk : k < n) (ht : l.getD k 0 = t) : (l.drop k).filter p = (if p t then [t] else []) ++ (l.drop (k + 1)).filter p := by
  rw [drop_int hn hk ht, List.filter_cons]
  split <;> rfl

set_option maxHeartbeats 8000000 in
theorem isa_operands (x : Ins) (hk : knownB x.1 = true) (w : World) (ht : ITab w) :
    Calls Tryz.prog 51 #[insV x] w fun e' w' => ∃ v, e' = .returned v ∧ Up w w' ∧ w'.ownsRow w.heap.size 3 1 v (opsF x).length (intV (opsF x)) := by
  obtain ⟨ii, hii, iz0, iz1, iz2⟩ := info_parts int_info
  obtain ⟨r, hr⟩ : ∃ r, opsF x = r := ⟨_, rfl⟩
  rw [hr]
  obtain ⟨op, A, b, c, ⟨n1, d⟩, kd, bi, fr, ro, ov⟩ := x
  obtain ⟨o, rfl⟩ : ∃ o : Nat, op = o := ⟨op.toNat, by simp [knownB] at hk; omega⟩
  have ho : o < 17 := by simp [knownB] at hk; omega
  have hoI : (o : Int) < 17 := by omega
  have h0 := ht.1
  obtain ⟨a0, a1, a2, a3, a4, htab⟩ := tabF_five o ho
  obtain ⟨p, hp⟩ : ∃ p : Int → Bool, (fun t => !skB t ((o : Int), A, b, c, (n1, d), kd, bi, fr, ro, ov)) = p := ⟨_, rfl⟩
  have HP : Hid (∀ t, p t = !(decide (t = 0) || (decide (t = 6) && (decide ((o : Int) = 12) && decide (n1 = 8))))) := Lib.hid (fun t => by rw [← hp]; rfl)
  have HR : Hid (([a0, a1, a2, a3, a4] : List Int).filter p = r) := Lib.hid (by rw [← hr, opsF, Int.toNat_natCast, htab, hp])
  have t0 := ht.2 o 0 ho (by omega)
  have t1 := ht.2 o 1 ho (by omega)
  have t2 := ht.2 o 2 ho (by omega)
  have t3 := ht.2 o 3 ho (by omega)
  have t4 := ht.2 o 4 ho (by omega)
  rw [htab] at t0 t1 t2 t3 t4
  have t0 : w.cell? ⟨0, o * 6 + 1 + 0, none⟩ = some (.int .i64 a0) := t0
  have t1 : w.cell? ⟨0, o * 6 + 1 + 1, none⟩ = some (.int .i64 a1) := t1
  have t2 : w.cell? ⟨0, o * 6 + 1 + 2, none⟩ = some (.int .i64 a2) := t2
  have t3 : w.cell? ⟨0, o * 6 + 1 + 3, none⟩ = some (.int .i64 a3) := t3
  have t4 : w.cell? ⟨0, o * 6 + 1 + 4, none⟩ = some (.int .i64 a4) := t4
  have HIX : Hid (∀ k : Nat, k < 5 → ∃ a, ([a0, a1, a2, a3, a4] : List Int).getD k 0 = a ∧ ∀ w, (Instr.index 65 (.agg #[.int .i64 a0, .int .i64 a1, .int .i64 a2, .int .i64 a3, .int .i64 a4]) (.int .i64 (k : Int))).run Tryz.prog w = .ok (.int .i64 a) w) := Lib.hid (fun k hk5 => by
    rcases (by omega : k = 0 ∨ k = 1 ∨ k = 2 ∨ k = 3 ∨ k = 4) with rfl | rfl | rfl | rfl | rfl
    · exact ⟨a0, rfl, fun _ => by kernel_rfl⟩
    · exact ⟨a1, rfl, fun _ => by kernel_rfl⟩
    · exact ⟨a2, rfl, fun _ => by kernel_rfl⟩
    · exact ⟨a3, rfl, fun _ => by kernel_rfl⟩
    · exact ⟨a4, rfl, fun _ => by kernel_rfl⟩)
  obtain ⟨W1, hW1⟩ : ∃ W1, w.alloc (.cells #[.int .i64 (o : Int), .int .i64 A, .int .i64 b, .int .i64 c, .int .i64 n1, .int .i64 d, .int .i64 kd, .int .i64 bi, .int .i64 fr, .int .i64 ro, .int .i64 ov] 42) = W1 := ⟨_, rfl⟩
  have HC : Hid (∀ wr, Up W1 wr → wr.cell? ⟨w.heap.size, 0, none⟩ = some (.int .i64 (o : Int)) ∧ wr.cell? ⟨w.heap.size, 4, none⟩ = some (.int .i64 n1)) := Lib.hid (fun wr hu => by
    subst hW1
    exact ⟨cell_up_new hu 0 rfl, cell_up_new hu 4 rfl⟩)
  have HU1 : Hid (Up w W1) := Lib.hid (hW1 ▸ (Up.refl w).alloc _)
  have HW1 := Lib.hid hW1
  clear hr hp htab hk ht hW1
  go_enter Tryz.func51, Tryz.ntmps51
  go_wp2
  rw [HW1.out]
  go_loopw [3, 11] (fun ov iv wr => ∃ (k m : Nat) (ys : List Int), k ≤ 5 ∧ m ≤ k ∧ iv = .int .i64 k ∧ ys.length = m ∧ wr.ownsRow W1.heap.size 3 1 ov m (intV ys) ∧ ys ++ (([a0, a1, a2, a3, a4] : List Int).drop k).filter p = r ∧ Up W1 wr) (fun _ iv _ => 5 - (intOf iv).toNat)
  case atStart => exact ⟨0, 0, [], by omega, by omega, rfl, rfl, World.ownsRow_nil _ _ _ _, HR.out, Up.refl _⟩
  case round =>
    rename World => wr
    obtain ⟨k, m, ys, hk5, hmk, rfl, hm, hown, hf, hU⟩ := hrel
    obtain ⟨va, vc, rfl⟩ := own_slice hown
    obtain ⟨c0, c4⟩ := HC.out wr hU
    have HOWN := Lib.hid hown
    have HU := Lib.hid hU
    have HM := Lib.hid hm
    clear hown hU hm
    by_cases hlt : k < 5
    · have hltI : (k : Int) < 5 := by omega
      obtain ⟨a, hga, hix⟩ := HIX.out k hlt
      rw [filter_drop p (by rfl) hlt hga, HP.out] at hf
      have HF := Lib.hid hf
      clear hf hga
      by_cases ha0 : a = 0
      · subst ha0
        have HG : Hid (ys ++ (([a0, a1, a2, a3, a4] : List Int).drop (k + 1)).filter p = r) := Lib.hid (by rw [← HF.out]; simp)
        go_wp2
        go_roundw
        case rel => exact ⟨k + 1, m, ys, by omega, by omega, by go_num, HM.out, HOWN.out, HG.out, HU.out⟩
        case measure => simp [intOf]; omega
      have hb0 : (a == 0) = false := by simpa using ha0
      by_cases ha6 : a = 6
      · subst ha6
        by_cases h12 : (o : Int) = 12
        · have h12b : ((o : Int) == 12) = true := by simpa using h12
          by_cases h8 : n1 = 8
          · have HG : Hid (ys ++ (([a0, a1, a2, a3, a4] : List Int).drop (k + 1)).filter p = r) := Lib.hid (by rw [← HF.out]; simp [h12, h8])
            subst h8
            clear h12
            go_wp2
            go_roundw
            case rel => exact ⟨k + 1, m, ys, by omega, by omega, by go_num, HM.out, HOWN.out, HG.out, HU.out⟩
            case measure => simp [intOf]; omega
          · have h8b : (n1 == 8) = false := by simpa using h8
            have HG : Hid ((ys ++ [6]) ++ (([a0, a1, a2, a3, a4] : List Int).drop (k + 1)).filter p = r) := Lib.hid (by rw [← HF.out]; simp [h12, h8])
            clear h12
            go_wp2_with (at_builtin; refine wpList_append_sl _ rfl _ _ 45 rfl W1.heap.size 3 ii _ 1 8 Tryz.underlying45 hii iz0 iz1 iz2 rfl (by decide) (.slice va m vc) m _ rfl (own_up' HOWN.out ((Up.refl wr).alloc _)) (.slice (some ⟨wr.heap.size, 0, none⟩) 1 1) 1 _ rfl (IntsAt.one' wr 3 6 rfl) (fun i j _ _ => rfl) (by unfold maxLen; omega) (by omega) (by have := HU.out.size; simp at *; omega) ?_; intro v2 w1 hown1 hg1 hat1 hnil1; obtain ⟨vb, vd, rfl⟩ := own_slice hown1; have HO1 := Lib.hid hown1; have HG1 := Lib.hid hg1; clear hown1 hg1 hat1 hnil1)
            have HUN : Hid (Up W1 w1) := Lib.hid ((HU.out.alloc (.cells #[.int .i64 6] 3)).grown HG1.out fun g hg => own_base HOWN.out g hg)
            have HON := Lib.hid (int_snoc ys 6 ▸ HO1.out)
            go_roundw
            case rel => exact ⟨k + 1, m + 1, ys ++ [6], by omega, by omega, by go_num, by rw [List.length_append, HM.out]; rfl, HON.out, HG.out, HUN.out⟩
            case measure => simp [intOf]; omega
        · have h12b : ((o : Int) == 12) = false := by simpa using h12
          have HG : Hid ((ys ++ [6]) ++ (([a0, a1, a2, a3, a4] : List Int).drop (k + 1)).filter p = r) := Lib.hid (by rw [← HF.out]; simp [h12])
          go_wp2_with (at_builtin; refine wpList_append_sl _ rfl _ _ 45 rfl W1.heap.size 3 ii _ 1 8 Tryz.underlying45 hii iz0 iz1 iz2 rfl (by decide) (.slice va m vc) m _ rfl (own_up' HOWN.out ((Up.refl wr).alloc _)) (.slice (some ⟨wr.heap.size, 0, none⟩) 1 1) 1 _ rfl (IntsAt.one' wr 3 6 rfl) (fun i j _ _ => rfl) (by unfold maxLen; omega) (by omega) (by have := HU.out.size; simp at *; omega) ?_; intro v2 w1 hown1 hg1 hat1 hnil1; obtain ⟨vb, vd, rfl⟩ := own_slice hown1; have HO1 := Lib.hid hown1; have HG1 := Lib.hid hg1; clear hown1 hg1 hat1 hnil1)
          have HUN : Hid (Up W1 w1) := Lib.hid ((HU.out.alloc (.cells #[.int .i64 6] 3)).grown HG1.out fun g hg => own_base HOWN.out g hg)
          have HON := Lib.hid (int_snoc ys 6 ▸ HO1.out)
          go_roundw
          case rel => exact ⟨k + 1, m + 1, ys ++ [6], by omega, by omega, by go_num, by rw [List.length_append, HM.out]; rfl, HON.out, HG.out, HUN.out⟩
          case measure => simp [intOf]; omega
      have hb6 : (a == 6) = false := by simpa using ha6
      have HG : Hid ((ys ++ [a]) ++ (([a0, a1, a2, a3, a4] : List Int).drop (k + 1)).filter p = r) := Lib.hid (by rw [← HF.out]; simp [ha0, ha6])
      go_wp2_with (at_builtin; refine wpList_append_sl _ rfl _ _ 45 rfl W1.heap.size 3 ii _ 1 8 Tryz.underlying45 hii iz0 iz1 iz2 rfl (by decide) (.slice va m vc) m _ rfl (own_up' HOWN.out ((Up.refl wr).alloc _)) (.slice (some ⟨wr.heap.size, 0, none⟩) 1 1) 1 _ rfl (IntsAt.one' wr 3 a rfl) (fun i j _ _ => rfl) (by unfold maxLen; omega) (by omega) (by have := HU.out.size; simp at *; omega) ?_; intro v2 w1 hown1 hg1 hat1 hnil1; obtain ⟨vb, vd, rfl⟩ := own_slice hown1; have HO1 := Lib.hid hown1; have HG1 := Lib.hid hg1; clear hown1 hg1 hat1 hnil1)
      have HUN : Hid (Up W1 w1) := Lib.hid ((HU.out.alloc (.cells #[.int .i64 a] 3)).grown HG1.out fun g hg => own_base HOWN.out g hg)
      have HON := Lib.hid (int_snoc ys a ▸ HO1.out)
      go_roundw
      case rel => exact ⟨k + 1, m + 1, ys ++ [a], by omega, by omega, by go_num, by rw [List.length_append, HM.out]; rfl, HON.out, HG.out, HUN.out⟩
      case measure => simp [intOf]; omega
    · obtain rfl : k = 5 := by omega
      have HG : Hid (r = ys) := Lib.hid (by rw [← hf]; simp)
      clear hf
      go_wp2
      go_ret
      exact ret_v ⟨HU1.out.trans HU.out, by rw [HG.out, HM.out]; exact own_from HOWN.out _ HU1.out.size⟩

end Go.Proofs.YtlglfdhiopnglaaGreatDoor

