/-
  Joined by a program: IsO, IsL, IsM.
-/
import Derived.Test.YtlglfdhiopnglaaGreatDoorGc
import Derived.Test.YtlglfdhiopnglaaGreatDoorGi
import Derived.Test.YtlglfdhiopnglaaGreatDoorGb
import Derived.Test.YtlglfdhiopnglaaGreatDoorGa

section
namespace Go.Proofs.YtlglfdhiopnglaaGreatDoor
open Go.ChangeShapes Go.WideShapes Go.ChangeAt Go.RowKit
set_option linter.unusedVariables false
set_option linter.unusedSimpArgs false
set_option maxRecDepth 100000

set_option maxHeartbeats 4000000 in
theorem frac_Format (n d : Int) (hn : R64 n) (hd : R64 d) (w : World) (ht : FTab w) : Calls Tryz.prog 80 #[.agg #[.int .i64 n, .int .i64 d]] w fun e w' => e = .returned (.string (bst (frcL n d))) ∧ Up w w' := by
  obtain ⟨T, hT⟩ : ∃ T, frcL n d = T := ⟨_, rfl⟩
  rw [hT]
  unfold frcL at hT
  obtain ⟨vf, hvf⟩ : ∃ r, validF n d = r := ⟨_, rfl⟩
  rw [hvf] at hT
  have HV := Lib.hid (fun w => frac_Valid n d vf hvf hn.1 hn.2 w)
  have ln := itoa_len hn
  have ld := itoa_len hd
  have HN := Lib.hid (fun x (hx : Up w x) => s_FormatInt n hn x (ht.up hx))
  have HD := Lib.hid (fun x (hx : Up w x) => s_FormatInt d hd x (ht.up hx))
  generalize Lib.itoa n = nl at *
  generalize Lib.itoa d = dl at *
  have HU : Hid (Up w (w.alloc (.cells #[.int .i64 n, .int .i64 d] 38))) := Lib.hid ((Up.refl w).alloc _)
  have B0 : Hid (BoxC (w.alloc (.cells #[.int .i64 n, .int .i64 d] 38)) w.heap.size 38 #[.int .i64 n, .int .i64 d]) := Lib.hid (BoxC.new w _ _)
  have HTT := Lib.hid hT
  clear hn hd ht hT hvf
  cases vf
  · have HE : Hid (T = []) := Lib.hid (by rw [← HTT.out, if_pos rfl])
    clear HTT
    go_enter Tryz.func80, Tryz.ntmps80
    go_wp2_with (go_at_call 76; refine (HV.out _).mono ?_; rintro e x ⟨rfl, hx⟩; replace HU := Lib.hid (HU.out.trans hx); clear hx)
    go_ret
    exact ⟨ret_str (by rw [HE.out]; rfl), HU.out⟩
  by_cases h1 : d = 1
  · have HE : Hid (T = nl) := Lib.hid (by rw [← HTT.out, if_neg (by simp), if_pos h1])
    subst h1
    clear HTT
    go_enter Tryz.func80, Tryz.ntmps80
    go_wp2_with (first
      | (go_at_call 76; refine (HV.out _).mono ?_; rintro e x ⟨rfl, hx⟩; replace HU := Lib.hid (HU.out.trans hx); replace B0 := Lib.hid (B0.out.up hx); clear hx; obtain ⟨c0, c1⟩ := B0.out.two)
      | (go_at_call 79; refine (HN.out _ HU.out).mono ?_; rintro e x ⟨rfl, hx⟩; replace HU := Lib.hid (HU.out.trans hx); clear hx))
    go_ret
    exact ⟨ret_str (by rw [HE.out]), HU.out⟩
  have h1b : (d == 1) = false := by simpa using h1
  have k1 := cat (A := bst nl) (B := ⟨#[47]⟩) (b := [47]) rfl rfl rfl (by omega) (by decide)
  have k2 := cat (A := bst (nl ++ [47])) (B := bst dl) (c := T) rfl rfl (by rw [← HTT.out, if_neg (by simp), if_neg h1]) (by simp; omega) (by omega)
  clear HTT h1 ln ld
  go_enter Tryz.func80, Tryz.ntmps80
  go_wp2_with (go_at_call 76; refine (HV.out _).mono ?_; rintro e x ⟨rfl, hx⟩; replace HU := Lib.hid (HU.out.trans hx); replace B0 := Lib.hid (B0.out.up hx); clear hx; obtain ⟨c0, c1⟩ := B0.out.two)
  have hs0 := B0.out.lt
  refine wp_region_ext (by kernel_rfl) (by kernel_rfl) ?_
  repeat (go_big_quiet_step (first | (with_reducible exact Calls.ext_of (HN.out _ (HU.out.trans (Ext.up _)))) | (with_reducible exact Calls.ext_of (HD.out _ (HU.out.trans (Ext.up _))))))
  refine wpQuiet_nil ?_
  intro x hx
  go_wp2
  go_ret
  exact ⟨rfl, HU.out.trans hx⟩

set_option maxHeartbeats 8000000 in
theorem isa_operandText (x : Ins) (k : Int) (hr : InR x) (w : World) (ht : FTab w) : Calls Tryz.prog 55 #[insV x, .int .i64 k] w fun e w' => e = .returned (.string (bst (opdL x k))) ∧ Up w w' := by
  obtain ⟨op, A, B, C, ⟨n, d⟩, kd, bi, fr, ro, ov⟩ := x
  obtain ⟨r, hE⟩ : ∃ r, bst (opdL (op, A, B, C, (n, d), kd, bi, fr, ro, ov) k) = r := ⟨_, rfl⟩
  rw [hE]
  unfold opdL at hE
  dsimp only at hE
  have hA : R64 A := hr 1
  have hB : R64 B := hr 2
  have hC : R64 C := hr 3
  have hn : R64 n := hr 4
  have hd : R64 d := hr 5
  have HTY := Lib.hid (fun x (hx : Up w x) => isa_typeText (kd, bi, fr, ro, ov) (fun j => match j with
    | 0 => hr 6
    | 1 => hr 7
    | 2 => hr 8
    | 3 => hr 9
    | j + 4 => hr 10) x (ht.up hx))
  have HFR := Lib.hid (fun x (hx : Up w x) => frac_Format n d hn hd x (ht.up hx))
  have HOP := Lib.hid (fun x => calls_up (isa_operatorName n x))
  have la := itoa_len hA
  have lb := itoa_len hB
  have lc := itoa_len hC
  have HA := Lib.hid (fun x (hx : Up w x) => s_Itoa A hA x (ht.up hx))
  have HB := Lib.hid (fun x (hx : Up w x) => s_Itoa B hB x (ht.up hx))
  have HC := Lib.hid (fun x (hx : Up w x) => s_Itoa C hC x (ht.up hx))
  have HN := Lib.hid (fun x (hx : Up w x) => s_FormatInt n hn x (ht.up hx))
  generalize Lib.itoa A = al at *
  generalize Lib.itoa B = bl at *
  generalize Lib.itoa C = cl at *
  generalize Lib.itoa n = nl at *
  generalize typL (kd, bi, fr, ro, ov) = tl at *
  generalize frcL n d = fl at *
  generalize opnL n = ol at *
  have k1 := cat (A := ⟨#[120]⟩) (B := bst al) (a := [120]) (c := 120 :: al) rfl rfl rfl (by decide) (by omega)
  have k2 := cat (A := ⟨#[120]⟩) (B := bst bl) (a := [120]) (c := 120 :: bl) rfl rfl rfl (by decide) (by omega)
  have k3 := cat (A := ⟨#[120]⟩) (B := bst cl) (a := [120]) (c := 120 :: cl) rfl rfl rfl (by decide) (by omega)
  have k4 := cat (A := ⟨#[114]⟩) (B := bst al) (a := [114]) (c := 114 :: al) rfl rfl rfl (by decide) (by omega)
  have k5 := cat (A := ⟨#[114]⟩) (B := bst bl) (a := [114]) (c := 114 :: bl) rfl rfl rfl (by decide) (by omega)
  have k6 := cat (A := ⟨#[114]⟩) (B := bst cl) (a := [114]) (c := 114 :: cl) rfl rfl rfl (by decide) (by omega)
  have HE := Lib.hid hE
  have HU := Lib.hid ((Up.refl w).alloc (.cells #[.int .i64 op, .int .i64 A, .int .i64 B, .int .i64 C, .int .i64 n, .int .i64 d, .int .i64 kd, .int .i64 bi, .int .i64 fr, .int .i64 ro, .int .i64 ov] 42))
  clear hE hA hB hC hn hd hr ht la lb lc
  go_enter Tryz.func55, Tryz.ntmps55
  go_wp2_with (first
    | (go_at_call 78; (first | (with_reducible refine (HA.out _ HU.out).mono ?_) | (with_reducible refine (HB.out _ HU.out).mono ?_) | (with_reducible refine (HC.out _ HU.out).mono ?_)); rintro e' x ⟨rfl, hx⟩; have HV := Lib.hid (HU.out.trans hx); clear hx)
    | (go_at_call 79; refine (HN.out _ HU.out).mono ?_; rintro e' x ⟨rfl, hx⟩; have HV := Lib.hid (HU.out.trans hx); clear hx)
    | (go_at_call 80; refine (HFR.out _ HU.out).mono ?_; rintro e' x ⟨rfl, hx⟩; have HV := Lib.hid (HU.out.trans hx); clear hx)
    | (go_at_call 81; refine (HOP.out _).mono ?_; rintro e' x ⟨rfl, hx⟩; have HV := Lib.hid (HU.out.trans hx); clear hx)
    | (go_at_call 82; refine (HTY.out _ HU.out).mono ?_; rintro e' x ⟨rfl, hx⟩; have HV := Lib.hid (HU.out.trans hx); clear hx))
  all_goals clear k1 k2 k3 k4 k5 k6
  all_goals try simp only [beq_iff_eq, beq_eq_false_iff_ne, ne_eq] at *
  all_goals
    go_ret
    exact ⟨ret_str (by rw [← HE.out]; simp [*]), HV.out⟩
end Go.Proofs.YtlglfdhiopnglaaGreatDoor
end

section
namespace Go.Proofs.YtlglfdhiopnglaaGreatDoor
open Go.ChangeShapes Go.WideShapes Go.ChangeAt Go.RowKit
set_option linter.unusedVariables false
set_option linter.unusedSimpArgs false
set_option maxRecDepth 100000

/-- The words of the table of opcodes. -/
def WTab (w : World) : Prop := 0 < w.heap.size ∧ ∀ i, i < 17 → w.cell? ⟨0, i * 6, none⟩ = some (.string (mnS i))
theorem WTab.up {w w' : World} (h : WTab w) (u : Up w w') : WTab w' := ⟨Nat.lt_of_lt_of_le h.1 u.size, fun i hi => (u.cell _ _ h.1).trans (h.2 i hi)⟩
theorem string_info : (Tryz.prog.info? 9).map (fun i => (i.zero, i.size, i.bytes)) = some (some (.string ByteArray.empty), 1, 16) := by kernel_rfl
theorem SlAt.grown {w w' : World} {v : Value} {n k : Nat} {f : Nat → Nat → Value} {row : Option Nat} (h : SlAt w v n k f) (hg : w.grownBy w' row) (hne : ∀ g, blk v = some g → some g ≠ row) : SlAt w' v n k f := by
  obtain ⟨⟨a, cap, rfl, h0, hc⟩, hm⟩ := h
  refine ⟨⟨a, cap, rfl, h0, fun y hy hl => ?_⟩, hm⟩
  obtain ⟨g1, g2, g3⟩ := hc y hy hl
  subst hy
  have hb := hg.block y.block g2 (hne _ rfl)
  refine ⟨g1, Nat.lt_of_lt_of_le g2 hg.size, fun i j hi hj => ?_⟩
  rw [← g3 i j hi hj]
  simp [World.cell?, hb]
def strsV (l : List ByteArray) : List Value := l.map Value.string
theorem flat_str (s : ByteArray) : flat (fun (_ _ : Nat) => Value.string s) 1 1 = [Value.string s] := rfl
def wordsF (x : Ins) (j : Nat) : List ByteArray := mnS x.1.toNat :: ((opsF x).take j).map fun k => bst (opdL x k)
theorem wordsF_succ (x : Ins) (j : Nat) (k : Int) (h : (opsF x)[j]? = some k) : wordsF x (j + 1) = wordsF x j ++ [bst (opdL x k)] := by
  unfold wordsF
  have hj := (List.getElem?_eq_some_iff.1 h).1
  rw [List.take_succ_eq_append_getElem hj, List.map_append, (List.getElem?_eq_some_iff.1 h).2]
  rfl
theorem wordsF_len (x : Ins) (j : Nat) (h : j ≤ (opsF x).length) : (wordsF x j).length = j + 1 := by
  unfold wordsF
  simp only [List.length_cons, List.length_map, List.length_take]
  omega
theorem mnS_len (i : Nat) : (mnS i).data.toList.length ≤ 10 := by
  unfold mnS
  split <;> decide
theorem join_len : ∀ (l : List (List UInt8)), (∀ a ∈ l, a.length ≤ 60) → (Lib.join l [32]).length ≤ 61 * l.length
  | [], _ => by simp [Lib.join_nil]
  | [a], h => by
    rw [Lib.join_one]
    have := h a (by simp)
    simp only [List.length_cons, List.length_nil]; omega
  | a :: b :: l, h => by
    have ih := join_len (b :: l) (fun y hy => h y (List.mem_cons_of_mem _ hy))
    have ha := h a (by simp)
    have e : Lib.join (a :: b :: l) [32] = a ++ [32] ++ Lib.join (b :: l) [32] := by
      unfold Lib.join
      simp [List.intercalate]
    rw [e]
    simp only [List.length_append, List.length_cons, List.length_nil] at *
    omega
theorem words_data (x : Ins) : (wordsF x (opsF x).length).map (·.data.toList) = (mnS x.1.toNat).data.toList :: (opsF x).map (opdL x) := by
  unfold wordsF
  rw [List.take_length, List.map_cons, List.map_map]
  congr 1
theorem lineL_len {x : Ins} (hx : InR x) : (lineL x).length ≤ 366 := by
  unfold lineL
  have h := opsF_len x
  refine Nat.le_trans (join_len _ (fun a ha => ?_)) ?_
  · rcases List.mem_cons.1 ha with rfl | ha
    · exact Nat.le_trans (mnS_len _) (by decide)
    · obtain ⟨k, _, rfl⟩ := List.mem_map.1 ha
      exact opdL_len hx k
  · simp only [List.length_cons, List.length_map]; omega
end Go.Proofs.YtlglfdhiopnglaaGreatDoor
end

section
namespace Go.Proofs.YtlglfdhiopnglaaGreatDoor
open Go.ChangeShapes Go.WideShapes Go.ChangeAt Go.RowKit
set_option linter.unusedVariables false
set_option linter.unusedSimpArgs false
set_option maxRecDepth 100000

theorem intsAt_get {w : World} {v : Value} {l : List Int} (h : IntsAt w v l) {a : Option Addr} {n c : Nat} (hv : v = .slice a n c) (k : Nat) (hk : k < n) : ∃ g o, a = some ⟨g, o, none⟩ ∧ g < w.heap.size ∧ w.cell? ⟨g, o + k, none⟩ = some (.int .i64 (l.getD k 0)) := by
  subst hv
  obtain ⟨⟨a', c', e, h0, hc⟩, _⟩ := h
  simp only [Value.slice.injEq] at e
  obtain ⟨rfl, rfl, rfl⟩ := e
  cases a with
  | none => have := h0 rfl; omega
  | some y =>
    obtain ⟨g1, g2, g3⟩ := hc y rfl (by omega)
    obtain ⟨g, o, sp⟩ := y
    have : sp = none := g1
    subst this
    have := g3 k 0 hk (by decide)
    exact ⟨g, o, rfl, g2, by simpa using this⟩

set_option maxHeartbeats 8000000 in
theorem isa_line (x : Ins) (hx : InR x) (hk : knownB x.1 = true) (w : World) (ht : FTab w) (hI : ITab w) (hW : WTab w) :
    Calls Tryz.prog 32 #[insV x] w fun e w' => e = .returned (.string (bst (lineL x))) ∧ Up w w' := by
  obtain ⟨j0, hi0, hz0, hz1, hz2⟩ := info_parts string_info
  have HX := Lib.hid hx
  have HT := Lib.hid ht
  have HI := Lib.hid hI
  have HOP := Lib.hid (fun x' (h : Up w x') => isa_operands x hk x' (hI.up h))
  have HTX := Lib.hid (fun k x' (h : Up w x') => isa_operandText x k hx x' (ht.up h))
  have HLL := Lib.hid (lineL_len hx)
  have hol := opsF_len x
  obtain ⟨o, ho1, ho2⟩ : ∃ o : Nat, x.1 = o ∧ o < 17 := by
    unfold knownB at hk
    simp only [decide_eq_true_eq] at hk
    exact ⟨x.1.toNat, by omega, by omega⟩
  have hword := hW.2 o ho2
  have h0 := hW.1
  have HWF := Lib.hid (wordsF_succ x)
  have HWL := Lib.hid (wordsF_len x)
  have HW0 : Hid (wordsF x 0 = [mnS o]) := Lib.hid (by unfold wordsF; rw [ho1]; rfl)
  have HWD : Hid (Lib.join ((wordsF x (opsF x).length).map (·.data.toList)) [32] = lineL x) := Lib.hid (by rw [words_data]; rfl)
  have hoI : (o : Int) < 17 := by omega
  obtain ⟨ks, hks⟩ : ∃ ks, opsF x = ks := ⟨_, rfl⟩
  obtain ⟨n, hn⟩ : ∃ n, ks.length = n := ⟨_, rfl⟩
  rw [hks] at HOP HWF HWL HWD hol
  rw [hn] at HOP hol HWL HWD
  have HN := Lib.hid hn
  have hnI : (n : Int) ≤ 5 := by omega
  generalize wordsF x = WF at *
  generalize lineL x = LL at *
  clear hx ht hI hW hk hks hn
  obtain ⟨op, A, B, C, ⟨n1, d⟩, kd, bi, fr, ro, ov⟩ := x
  dsimp only at ho1
  subst ho1
  have HU1 : Hid (Up w ((w.alloc (.cells #[.int .i64 (o : Int), .int .i64 A, .int .i64 B, .int .i64 C, .int .i64 n1, .int .i64 d, .int .i64 kd, .int .i64 bi, .int .i64 fr, .int .i64 ro, .int .i64 ov] 42)).alloc (.cells #[.string (mnS o)] 9))) := Lib.hid (((Up.refl w).alloc _).alloc _)
  have HB1 : Hid (BoxC ((w.alloc (.cells #[.int .i64 (o : Int), .int .i64 A, .int .i64 B, .int .i64 C, .int .i64 n1, .int .i64 d, .int .i64 kd, .int .i64 bi, .int .i64 fr, .int .i64 ro, .int .i64 ov] 42)).alloc (.cells #[.string (mnS o)] 9)) w.heap.size 42 #[.int .i64 (o : Int), .int .i64 A, .int .i64 B, .int .i64 C, .int .i64 n1, .int .i64 d, .int .i64 kd, .int .i64 bi, .int .i64 fr, .int .i64 ro, .int .i64 ov]) := Lib.hid ((BoxC.new w _ _).up ((Up.refl _).alloc _))
  have HO1 : Hid (((w.alloc (.cells #[.int .i64 (o : Int), .int .i64 A, .int .i64 B, .int .i64 C, .int .i64 n1, .int .i64 d, .int .i64 kd, .int .i64 bi, .int .i64 fr, .int .i64 ro, .int .i64 ov] 42)).alloc (.cells #[.string (mnS o)] 9)).ownsRow (w.heap.size + 1) 9 1 (.slice (some ⟨w.heap.size + 1, 0, none⟩) 1 1) 1 (strsV (WF 0))) := Lib.hid (by
    rw [HW0.out]
    refine ⟨rfl, .inr ⟨w.heap.size + 1, 1, #[.string (mnS o)], rfl, Nat.le_refl _, BoxC.new2 w _ _ _, Nat.le_refl _, by decide, rfl, rfl⟩⟩)
  go_enter Tryz.func32, Tryz.ntmps32
  go_wp2_with (go_at_call 51; refine (HOP.out _ HU1.out).mono ?_; rintro e z ⟨v, rfl, hz, hv⟩; obtain ⟨ka, kc, rfl⟩ := own_slice hv; have HZ := Lib.hid hz; have HV := Lib.hid hv; clear hz hv)
  have HVI : Hid (IntsAt z (.slice ka n kc) ks) := Lib.hid (IntsAt.own HV.out HN.out (by omega))
  have HVB : Hid (∀ g, blk (.slice ka n kc) = some g → w.heap.size + 2 ≤ g ∧ g < z.heap.size) := Lib.hid (fun g hg => by
    rcases HV.out.2 with ⟨e, _⟩ | ⟨g', cap, cur, e, hb, hg', _⟩
    · rw [e] at hg; cases hg
    · rw [e] at hg
      have : g' = g := by simpa [blk] using hg
      subst this
      refine ⟨by simpa using hb, ?_⟩
      exact (Array.getElem?_eq_some_iff.1 hg').1)
  have HUZ := Lib.hid (HU1.out.trans HZ.out)
  have HBZ := Lib.hid (HB1.out.up HZ.out)
  have HOZ := Lib.hid (own_up' HO1.out HZ.out)
  have hzs : w.heap.size + 2 ≤ z.heap.size := by have := HZ.out.size; simpa using this
  clear HV HZ HU1 HB1 HO1 HOP hword
  go_loopw [3, 15] (fun wv jv wr => ∃ (j : Nat), j ≤ n ∧ jv = .int .i64 j ∧ wr.ownsRow (w.heap.size + 1) 9 1 wv (j + 1) (strsV (WF j)) ∧ (∀ g, wv.ownBlock = some g → g = w.heap.size + 1 ∨ z.heap.size ≤ g) ∧ IntsAt wr (.slice ka n kc) ks ∧ BoxC wr w.heap.size 42 #[.int .i64 (o : Int), .int .i64 A, .int .i64 B, .int .i64 C, .int .i64 n1, .int .i64 d, .int .i64 kd, .int .i64 bi, .int .i64 fr, .int .i64 ro, .int .i64 ov] ∧ Up w wr ∧ z.heap.size ≤ wr.heap.size) (fun _ jv _ => n - (intOf jv).toNat)
  case atStart => exact ⟨0, by omega, rfl, HOZ.out, fun g hg => .inl (by cases hg; rfl), HVI.out, HBZ.out, HUZ.out, Nat.le_refl _⟩
  case round =>
    rename World => wr
    obtain ⟨j, hj, rfl, hown, hblk, hint, hbox, hup, hsz⟩ := hrel
    obtain ⟨wa, wc, rfl⟩ := own_slice hown
    have HOWN := Lib.hid hown
    have HBK := Lib.hid hblk
    have HINT := Lib.hid hint
    have HBX := Lib.hid hbox
    have HU := Lib.hid hup
    clear hown hblk hint hbox hup
    by_cases hlt : j < n
    · have hltI : (j : Int) < n := by omega
      obtain ⟨k, hkk⟩ : ∃ k, ks.getD j 0 = k := ⟨_, rfl⟩
      obtain ⟨kg, ko, hka, hkl, hkc⟩ := intsAt_get HINT.out rfl j hlt
      rw [hkk] at hkc
      subst hka
      have hks : ks[j]? = some k := by
        have hjl : j < ks.length := by rw [HN.out]; exact hlt
        rw [List.getElem?_eq_getElem hjl, ← hkk, List.getD_eq_getElem?_getD, List.getElem?_eq_getElem hjl]; rfl
      have HS := Lib.hid (HWF.out j k hks)
      have hI := HBX.out
      have i0 := cell_of_row _ _ 0 _ _ _ hI
      have i1 := cell_of_row _ _ 1 _ _ _ hI
      have i2 := cell_of_row _ _ 2 _ _ _ hI
      have i3 := cell_of_row _ _ 3 _ _ _ hI
      have i4 := cell_of_row _ _ 4 _ _ _ hI
      have i5 := cell_of_row _ _ 5 _ _ _ hI
      have i6 := cell_of_row _ _ 6 _ _ _ hI
      have i7 := cell_of_row _ _ 7 _ _ _ hI
      have i8 := cell_of_row _ _ 8 _ _ _ hI
      have i9 := cell_of_row _ _ 9 _ _ _ hI
      have i10 := cell_of_row _ _ 10 _ _ _ hI
      have hs0 := HBX.out.lt
      clear hI hkk hks
      obtain ⟨tt, htt⟩ : ∃ t, bst (opdL ((o : Int), A, B, C, (n1, d), kd, bi, fr, ro, ov) k) = t := ⟨_, rfl⟩
      have HTK := Lib.hid (fun x' h => HTX.out k x' h)
      rw [htt] at HTK HS
      clear htt
      go_wp2_with (first
        | (go_at_call 55; refine (HTK.out _ HU.out).mono ?_; rintro e x1 ⟨rfl, hx1⟩; have HX1 := Lib.hid hx1; have HA := Lib.hid ((Up.refl x1).alloc (.cells #[.string tt] 9)); have HXA := Lib.hid (hx1.trans HA.out); clear hx1)
        | (at_builtin; refine wpList_append_sl _ rfl _ _ 69 rfl (w.heap.size + 1) 9 j0 _ 1 16 Tryz.underlying69 hi0 hz0 hz1 hz2 rfl (by decide) (.slice wa (j + 1) wc) (j + 1) _ rfl (own_up' HOWN.out HXA.out) (.slice (some ⟨x1.heap.size, 0, none⟩) 1 1) 1 (fun _ _ => .string tt) rfl (SlAt.lay x1 _ #[.string tt] 1 1 _ (by decide) (fun i j hi hj => by obtain rfl : i = 0 := (by omega); obtain rfl : j = 0 := (by omega); rfl)) (fun i j _ _ => rfl) (by unfold maxLen; omega) (by omega) (by have := (HU.out.trans HXA.out).size; have := HXA.out.size; omega) ?_; intro v' w2 ho2 hg2 hat2 hnil2; obtain ⟨wb, wd, rfl⟩ := own_slice ho2; have HO2 := Lib.hid ho2; have HG2 := Lib.hid hg2; have HAT := Lib.hid hat2; clear ho2 hg2 hat2 hnil2))
      have HROW : Hid (∀ g, (Value.slice wa (j + 1) wc).ownBlock = some g → g ≠ w.heap.size ∧ ¬ (w.heap.size + 2 ≤ g ∧ g < z.heap.size)) := Lib.hid (fun g hg => by
        rcases HBK.out g hg with h | h <;> omega)
      have hx1s := HXA.out.size
      have HON : Hid (w2.ownsRow (w.heap.size + 1) 9 1 (.slice wb (j + 1 + 1) wd) (j + 1 + 1) (strsV (WF (j + 1)))) := Lib.hid (by
        have h := HO2.out
        rw [HS.out]
        unfold strsV at h ⊢
        rw [List.map_append]
        exact h)
      have HINT2 := Lib.hid ((HINT.out.up HXA.out).grown HG2.out fun g hg e => (HROW.out g e.symm).2 (HVB.out g hg))
      have HBX2 : Hid (BoxC w2 w.heap.size 42 #[.int .i64 (o : Int), .int .i64 A, .int .i64 B, .int .i64 C, .int .i64 n1, .int .i64 d, .int .i64 kd, .int .i64 bi, .int .i64 fr, .int .i64 ro, .int .i64 ov]) := Lib.hid ((HG2.out.block w.heap.size (Nat.lt_of_lt_of_le hs0 hx1s) (fun e => (HROW.out _ e.symm).1 rfl)).trans (HBX.out.up HXA.out))
      have HU2 := Lib.hid ((HU.out.trans HXA.out).grown HG2.out fun g hg => by have := own_base HOWN.out g hg; omega)
      have hsz2 : z.heap.size ≤ w2.heap.size := Nat.le_trans (Nat.le_trans hsz hx1s) HG2.out.size
      have HBK2 : Hid (∀ g, (Value.slice wb (j + 1 + 1) wd).ownBlock = some g → g = w.heap.size + 1 ∨ z.heap.size ≤ g) := Lib.hid (fun g hg => by
        rcases HAT.out with h | h
        · exact HBK.out g (h.symm.trans hg)
        · rw [h] at hg
          have : (x1.alloc (.cells #[.string tt] 9)).heap.size = g := Option.some.inj hg
          exact .inr (by omega))
      try go_roundw
      case rel => exact ⟨j + 1, by omega, by go_num, HON.out, HBK2.out, HINT2.out, HBX2.out, HU2.out, hsz2⟩
      case measure => simp [intOf]; omega
    · obtain rfl : j = n := by omega
      obtain ⟨g, hwa, hgl, hcells⟩ : ∃ g, wa = some ⟨g, 0, none⟩ ∧ g < wr.heap.size ∧ ∀ (i : Nat) s, (WF j)[i]? = some s → wr.cell? ⟨g, 0 + i, none⟩ = some (.string s) := by
        rcases HOWN.out.2 with ⟨_, h⟩ | ⟨g, cap, cur, e, _, hg, _, _, _, hcur⟩
        · omega
        · simp only [Value.slice.injEq] at e
          refine ⟨g, e.1, (Array.getElem?_eq_some_iff.1 hg).1, fun i s hs => ?_⟩
          rw [cell_of_row _ _ _ _ _ _ hg, Nat.zero_add]
          have h1 : (cur.toList.take ((j + 1) * 1))[i]? = some (.string s) := by
            rw [hcur]
            unfold strsV
            rw [List.getElem?_map, hs]; rfl
          rw [List.getElem?_take] at h1
          split at h1
          · rw [Array.getElem?_toList] at h1; exact h1
          · cases h1
      have hcap : j + 1 ≤ wc := by
        rcases HOWN.out.2 with ⟨_, h⟩ | ⟨g, cap, cur, e, _, hg, hle, _⟩
        · omega
        · simp only [Value.slice.injEq] at e
          rw [e.2.2]; exact hle
      subst hwa
      have hwl := HWL.out j (Nat.le_refl _)
      have HJ := Lib.hid (Tryz.strings_Join g 0 wc (WF j) ⟨#[32]⟩ wr hcells hgl (by omega) (by omega) (by
        have e : (⟨#[32]⟩ : ByteArray).data.toList = [32] := rfl
        rw [e, HWD.out]
        have := HLL.out; omega))
      rw [hwl] at HJ
      have HE : Hid ((Lib.join ((WF j).map (·.data.toList)) (⟨#[32]⟩ : ByteArray).data.toList).toArray = LL.toArray) := Lib.hid (by rw [← HWD.out])
      clear hcells hwl
      go_wp2_with (go_at_call 56; refine HJ.out.mono ?_; rintro e x2 ⟨rfl, hx2⟩; have HX2 := Lib.hid hx2; clear hx2)
      go_ret
      exact ⟨ret_str (by unfold bst; rw [HE.out]), HU.out.trans HX2.out⟩
end Go.Proofs.YtlglfdhiopnglaaGreatDoor
end
