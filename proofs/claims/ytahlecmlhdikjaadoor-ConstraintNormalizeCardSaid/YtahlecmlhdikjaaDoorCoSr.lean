/-
  Rows of constraints whose forms' monomials lie elsewhere; sorted of the reference: the walk.
-/
import Derived.Test.YtahlecmlhdikjaaDoorCoNp
import Derived.Test.YtahlecmlhdikjaaDoorCoR
import Derived.Test.YtahlecmlhdikjaaDoorLinRw
namespace Go.Proofs.YtahlecmlhdikjaaDoor
open Go.ChangeShapes Go.WideShapes Go.ChangeAt Go.RowKit
set_option linter.unusedVariables false
set_option linter.unusedSimpArgs false
set_option maxRecDepth 100000

def RowN (B : Nat) (w : World) (v : Value) (cs : List Con) (vs : Nat → Value) : Prop :=
  w.ownsRow B 26 3 v cs.length (flat (conF cs vs) cs.length 3) ∧ (∀ j, j < cs.length → PartN v.ownBlock w (vs j) (cs.getD j c0).2.1 ∧ In64 (cs.getD j c0).1)
theorem RowN.up {B : Nat} {w w' : World} {v : Value} {cs : List Con} {vs : Nat → Value} (h : RowN B w v cs vs) (u : Up w w') : RowN B w' v cs vs := ⟨own_up' h.1 u, fun j hj => ⟨(h.2 j hj).1.up u, (h.2 j hj).2⟩⟩
theorem RowN.cons {B : Nat} {w : World} {v : Value} {cs : List Con} {vs : Nat → Value} (h : RowN B w v cs vs) (hn : cs.length ≤ 9223372036854775807) : ConsAt w v cs :=
  ⟨vs, SlAt.of_own h.1 hn (fun i j hi hj => flat_get _ _ _ _ _ hi hj), fun i hi => ⟨(h.2 i hi).1.1, (h.2 i hi).2⟩⟩
theorem PartN.set {g o : Nat} {u : Value} {w : World} {v : Value} {l : List Mono} (h : PartN (some g) w v l) : PartN (some g) (w.setCell ⟨g, o, none⟩ u) v l := by
  obtain ⟨⟨⟨⟨a, cap, hv, h0, hc⟩, hm⟩, h2, h3⟩, hne⟩ := h
  refine ⟨⟨⟨⟨a, cap, hv, h0, fun y hy hl => ?_⟩, hm⟩, h2, h3⟩, hne⟩
  obtain ⟨g1, g2, g3⟩ := hc y hy hl
  have hb : g ≠ y.block := fun e => hne y _ _ (by rw [hv, hy]) hl (by rw [e])
  exact ⟨g1, by rw [set_size]; exact g2, fun i j hi hj => (set_cell_ne hb).trans (g3 i j hi hj)⟩
theorem RowN.set {B : Nat} {w : World} {g cap n : Nat} {cs : List Con} {vs : Nat → Value} (h : RowN B w (.slice (some ⟨g, 0, none⟩) n cap) cs vs) (hn : cs.length = n) (i : Nat) (hi : i < n) (K : Int) (v : Value) (l : List Mono) (b : Bool) (hp : PartN (some g) w v l) (hK : In64 K) :
    RowN B (((w.setCell ⟨g, i * 3, none⟩ (.int .i64 K)).setCell ⟨g, i * 3 + 1, none⟩ v).setCell ⟨g, i * 3 + 2, none⟩ (.bool b)) (.slice (some ⟨g, 0, none⟩) n cap) (cs.set i (K, l, b)) (fun j => if j = i then v else vs j) := by
  obtain ⟨h1, h2⟩ := h
  subst hn
  have e1 := own_setF (own_setF (own_setF h1 i 0 hi (by omega) (.int .i64 K)) i 1 hi (by omega) v) i 2 hi (by omega) (.bool b)
  refine ⟨?_, fun j hj => ?_⟩
  · rw [List.length_set, flat_congr (f := conF (cs.set i (K, l, b)) fun j => if j = i then v else vs j) (h := setF (setF (setF (conF cs vs) i 0 (.int .i64 K)) i 1 v) i 2 (.bool b)) (by omega)]
    · exact e1
    · intro i' j hi' hj
      unfold setF conF
      by_cases he : i' = i
      · subst he
        rcases (by omega : j = 0 ∨ j = 1 ∨ j = 2) with rfl | rfl | rfl <;> simp [hi']
      · have hd : (cs.set i (K, l, b)).getD i' c0 = cs.getD i' c0 := by rw [getD_set _ _ _ _ hi', if_neg he]
        rcases (by omega : j = 0 ∨ j = 1 ∨ j = 2) with rfl | rfl | rfl <;> simp only [he, false_and, if_false, hd]
  · rw [List.length_set] at hj
    rw [getD_set _ _ _ _ hj]
    by_cases he : j = i
    · subst he; simp only [if_true]; exact ⟨hp.set.set.set, hK⟩
    · simp only [he, if_false]; exact ⟨(h2 j hj).1.set.set.set, (h2 j hj).2⟩
theorem con_getD2 (cs : List Con) (c : Con) (j : Nat) (hj : j < cs.length + 1) : (cs ++ [c]).getD j c0 = if j = cs.length then c else cs.getD j c0 := by
  rw [List.getD_eq_getElem?_getD, List.getD_eq_getElem?_getD]
  by_cases h : j = cs.length
  · subst h; rw [if_pos rfl, List.getElem?_append_right (Nat.le_refl _), Nat.sub_self]; rfl
  · rw [if_neg h, List.getElem?_append_left (by omega)]
theorem con_snoc2 (cs : List Con) (c : Con) (vs : Nat → Value) (v : Value) (i : Nat) (hi : cs.length = i) : flat (conF cs vs) i 3 ++ flat (conF [c] fun _ => v) 1 3 = flat (conF (cs ++ [c]) (fun j => if j = i then v else vs j)) (i + 1) 3 := by
  subst hi
  refine flat_snoc (by omega) (fun i' j h1 h2 => ?_) (fun j h2 => ?_)
  · have hd := con_getD2 cs c i' (by omega)
    rw [if_neg (by omega)] at hd
    have hne : ¬ i' = cs.length := by omega
    unfold conF
    rcases (by omega : j = 0 ∨ j = 1 ∨ j = 2) with rfl | rfl | rfl <;> simp only [hd, hne, if_false]
  · have hd := con_getD2 cs c cs.length (by omega)
    rw [if_pos rfl] at hd
    unfold conF
    rcases (by omega : j = 0 ∨ j = 1 ∨ j = 2) with rfl | rfl | rfl <;> simp only [hd, if_true] <;> rfl
/-- Behind an append of one element. -/
theorem RowN.snoc {B : Nat} {x w1 : World} {va vb : Option Addr} {vc vd n : Nat} {cs : List Con} {vs : Nat → Value} {c : Con} {v : Value} (h : RowN B x (.slice va n vc) cs vs) (hn : cs.length = n) (hp : PartN (Value.slice va n vc).ownBlock x v c.2.1) (hK : In64 c.1)
    (ho : w1.ownsRow B 26 3 (.slice vb (n + 1) vd) (n + 1) (flat (conF cs vs) n 3 ++ flat (conF [c] fun _ => v) 1 3))
    (g : x.grownBy w1 (Value.slice va n vc).ownBlock) (ha : (Value.slice vb (n + 1) vd).ownBlock = (Value.slice va n vc).ownBlock ∨ (Value.slice vb (n + 1) vd).ownBlock = some x.heap.size) :
    RowN B w1 (.slice vb (n + 1) vd) (cs ++ [c]) (fun j => if j = n then v else vs j) := by
  subst hn
  have hl : (cs ++ [c]).length = cs.length + 1 := by simp
  refine ⟨?_, fun j hj => ?_⟩
  · rw [hl, ← con_snoc2 cs c vs v cs.length rfl]; exact ho
  · rw [hl] at hj
    rw [con_getD2 cs c j hj]
    by_cases he : j = cs.length
    · dsimp only; rw [if_pos he, if_pos he]; exact ⟨hp.grown g ha, hK⟩
    · dsimp only; rw [if_neg he, if_neg he]
      obtain ⟨h1, h2⟩ := h.2 j (by omega)
      exact ⟨h1.grown g ha, h2⟩
/-- The cells of element i. -/
theorem RowN.elem {B : Nat} {w : World} {v : Value} {cs : List Con} {vs : Nat → Value} {a : Option Addr} {n cap : Nat} (h : RowN B w v cs vs) (hv : v = .slice a n cap) (hn : cs.length = n) (i : Nat) (hi : i < n) {K : Int} {l : List Mono} {b : Bool} (hc : cs.getD i c0 = (K, l, b)) :
    ∃ g a1 c1, a = some ⟨g, 0, none⟩ ∧ B ≤ g ∧ g < w.heap.size ∧ vs i = .slice a1 l.length c1 ∧ (∀ o, w.frozen? ⟨g, o, none⟩ = false) ∧ w.cell? ⟨g, i * 3, none⟩ = some (.int .i64 K) ∧ w.cell? ⟨g, i * 3 + 1, none⟩ = some (.slice a1 l.length c1) ∧ w.cell? ⟨g, i * 3 + 2, none⟩ = some (.bool b) ∧ PartN (some g) w (.slice a1 l.length c1) l ∧ In64 K := by
  subst hn
  subst hv
  obtain ⟨g, cp, hv, hgb, hgl, _, hfz, hcl⟩ := own_get h.1 (by omega)
  simp only [Value.slice.injEq, true_and] at hv
  obtain ⟨rfl, rfl⟩ := hv
  obtain ⟨h1, h2⟩ := h.2 i hi
  rw [hc] at h1 h2
  obtain ⟨a1, c1, hs⟩ := h1.1.1.slice
  have e0 := hcl (i * 3 + 0) _ (flat_get (conF cs vs) cs.length 3 i 0 hi (by omega))
  have e1 := hcl (i * 3 + 1) _ (flat_get (conF cs vs) cs.length 3 i 1 hi (by omega))
  have e2 := hcl (i * 3 + 2) _ (flat_get (conF cs vs) cs.length 3 i 2 hi (by omega))
  unfold conF at e0 e1 e2
  rw [hc] at e0 e2
  rw [hs] at e1 h1
  exact ⟨g, a1, c1, rfl, hgb, hgl, hs, hfz, e0, e1, e2, h1, h2⟩

theorem sortR_snoc (c : Con) : ∀ r p : List Con, sortR (r ++ [c]) p = insP c (sortR r p)
  | [], p => rfl
  | x :: r, p => sortR_snoc c r (insP x p)
theorem insP_len (c : Con) (p : List Con) : (insP c p).length = p.length + 1 := by
  unfold insP
  have := posR_le c p p.length
  simp
  omega
theorem sortR_len : ∀ r p : List Con, (sortR r p).length = r.length + p.length
  | [], p => by show p.length = 0 + p.length; omega
  | c :: r, p => by
    show (sortR r (insP c p)).length = _
    rw [sortR_len r, insP_len, List.length_cons]; omega
theorem insP_at {c : Con} {p : List Con} {n k : Nat} (hn : p.length = n) (h : posR c p n = k) : insP c p = p.take k ++ c :: p.drop k := by
  unfold insP
  rw [hn, h]
theorem swap_at (p : List Con) (c : Con) (X : List Con) (j : Nat) (hj : j < p.length) :
    ((p.take (j + 1) ++ c :: (p.drop (j + 1) ++ X)).set (j + 1) (p.getD j c0)).set j c = p.take j ++ c :: (p.drop j ++ X) := by
  have e : p.getD j c0 = p[j] := by rw [List.getD_eq_getElem?_getD, List.getElem?_eq_getElem hj]; rfl
  rw [e, List.take_succ_eq_append_getElem hj, List.drop_eq_getElem_cons hj, List.append_assoc]
  have hl : (p.take j).length = j := by rw [List.length_take]; omega
  rw [List.set_append_right _ _ (by omega), hl, show j + 1 - j = 1 by omega]
  rw [List.set_append_right _ _ (by omega), hl, Nat.sub_self]
  rfl
theorem at_here (p : List Con) (c : Con) (X : List Con) (k : Nat) (hk : k ≤ p.length) : (p.take k ++ c :: X).getD k c0 = c := by
  have hl : (p.take k).length = k := by rw [List.length_take]; omega
  rw [List.getD_eq_getElem?_getD, List.getElem?_append_right (by omega), hl, Nat.sub_self]; rfl
theorem at_before (p : List Con) (X : List Con) (k j : Nat) (hk : k ≤ p.length) (hj : j < k) : (p.take k ++ X).getD j c0 = p.getD j c0 := by
  have hl : (p.take k).length = k := by rw [List.length_take]; omega
  rw [List.getD_eq_getElem?_getD, List.getD_eq_getElem?_getD, List.getElem?_append_left (by omega), List.getElem?_take_of_lt hj]
def SortP (B : Nat) (cs : List Con) (v : Value) (w : World) (e : Ending) (w' : World) : Prop := ∃ vs', e = .returned v ∧ RowN B w' v (sortR cs []) vs' ∧ Below B w w'
def InnerP (B : Nat) (p : List Con) (c : Con) (X : List Con) (k i : Nat) (w : World) (v : Value) (wr : World) : Prop := ∃ vs', RowN B wr v (p.take k ++ c :: (p.drop k ++ X)) vs' ∧ posR c p i = posR c p k ∧ Below B w wr

set_option maxHeartbeats 8000000 in
theorem r06_sorted (B : Nat) (v : Value) (cs : List Con) (vs : Nat → Value) (w : World) (hrow : RowN B w v cs vs) (hB : B ≤ w.heap.size) (hlen : cs.length ≤ 300) :
    Calls Tryd.prog 53 #[v] w (SortP B cs v w) := by
  obtain ⟨va, vc, hv⟩ := own_slice hrow.1
  subst hv
  obtain ⟨n, hn⟩ : ∃ n, cs.length = n := ⟨_, rfl⟩
  rw [hn] at hrow hlen ⊢
  have HN := Lib.hid hn
  have HR := Lib.hid hrow
  have hnI : (n : Int) ≤ 300 := by omega
  clear hn hrow
  go_enter Tryd.func53, Tryd.ntmps53
  go_wp2
  go_loopw [3] (fun iv wr => ∃ (i : Nat) (vs' : Nat → Value), 1 ≤ i ∧ (i ≤ n ∨ i = 1) ∧ iv = .int .i64 i ∧ RowN B wr (.slice va n vc) (sortR (cs.take i) [] ++ cs.drop i) vs' ∧ Below B w wr) (fun iv _ => n - (intOf iv).toNat)
  case atStart => exact ⟨1, vs, by omega, .inr rfl, rfl, by
    have e : sortR (cs.take 1) [] ++ cs.drop 1 = cs := by cases cs <;> rfl
    rw [e]; exact HR.out, Below.refl _ _⟩
  case round =>
    rename World => wr
    obtain ⟨i, vs1, h1i, hi, rfl, hrow, hbl⟩ := hrel
    have HROW := Lib.hid hrow
    have HBL := Lib.hid hbl
    clear hrow hbl
    by_cases hlt : i < n
    · have hltI : (i : Int) < n := by omega
      obtain ⟨p, hp⟩ : ∃ p, sortR (cs.take i) [] = p := ⟨_, rfl⟩
      obtain ⟨c, hc⟩ : ∃ c, cs.getD i c0 = c := ⟨_, rfl⟩
      obtain ⟨X, hX⟩ : ∃ X, cs.drop (i + 1) = X := ⟨_, rfl⟩
      have hpl : p.length = i := by
        have := sortR_len (cs.take i) []
        rw [hp, List.length_take, HN.out] at this
        simp at this; omega
      have hd : cs.drop i = c :: X := by
        rw [List.drop_eq_getElem_cons (by rw [HN.out]; exact hlt), hX]
        rw [List.getD_eq_getElem?_getD, List.getElem?_eq_getElem (by rw [HN.out]; exact hlt)] at hc
        rw [← hc]; rfl
      have HNX : Hid (∀ k, posR c p i = k → sortR (cs.take (i + 1)) [] ++ cs.drop (i + 1) = p.take k ++ c :: (p.drop k ++ X)) := Lib.hid fun k hk => by
        have ht : cs.take (i + 1) = cs.take i ++ [c] := take_snoc2 (by rw [HN.out]; exact hlt) hc
        rw [ht, sortR_snoc, hp, insP_at hpl hk, hX, List.append_assoc]; rfl
      have HLL : Hid (∀ k, k ≤ i → (p.take k ++ c :: (p.drop k ++ X)).length = n) := Lib.hid fun k hk => by
        have h1 : (cs.drop i).length = X.length + 1 := by rw [hd]; rfl
        rw [List.length_drop, HN.out] at h1
        simp only [List.length_append, List.length_take, List.length_cons, List.length_drop, hpl]
        omega
      have HIN : Hid (InnerP B p c X i i w (.slice va n vc) wr) := Lib.hid ⟨vs1, by
        have := HROW.out
        rw [hp, hd] at this
        rw [List.take_of_length_le (by omega), List.drop_eq_nil_of_le (by omega), List.nil_append]; exact this, rfl, HBL.out⟩
      have HPL := Lib.hid hpl
      clear hp hc hX hpl hd HROW HBL
      go_wp2
      go_loopw [4] (fun kv wr => ∃ k : Nat, k ≤ i ∧ kv = .int .i64 k ∧ InnerP B p c X k i w (.slice va n vc) wr) (fun kv _ => (intOf kv).toNat)
      case atStart => exact ⟨i, Nat.le_refl _, rfl, HIN.out⟩
      case round =>
        rename World => wz
        obtain ⟨k, hk, rfl, vs2, hrow, hpos, hbl⟩ := hrel
        have HROW := Lib.hid hrow
        have HBL := Lib.hid hbl
        have HPOS := Lib.hid hpos
        clear hrow hbl hpos
        cases k with
        | zero =>
          have HE : Hid (sortR (cs.take (i + 1)) [] ++ cs.drop (i + 1) = p.take 0 ++ c :: (p.drop 0 ++ X)) := Lib.hid (HNX.out 0 HPOS.out)
          go_wp2_with fail
          refine wp_region_ext (by kernel_rfl) (by kernel_rfl) ?_
          repeat (go_big_quiet_step (fail))
          refine wpQuiet_nil ?_
          intro x hx
          have HX1 := Lib.hid (HROW.out.up hx)
          have HB1 := Lib.hid (HBL.out.trans (Below.mono hx (by have := HBL.out.size; omega)))
          clear hx
          go_wp2
          go_roundw
          case rel => exact ⟨i + 1, vs2, by omega, by omega, by go_num, by rw [HE.out]; exact HX1.out, HB1.out⟩
          case measure => simp [intOf]; omega
        | succ j =>
          have hji : j < i := by omega
          have hkp : (0 : Int) < ((j + 1 : Nat) : Int) := by omega
          have hkm : ((j + 1 : Nat) : Int) - 1 = (j : Int) := by omega
          have hj0 : (0 : Int) ≤ (j : Int) := by omega
          have hjn : (j : Int) < (n : Int) := by omega
          have hjn2 : ((j + 1 : Nat) : Int) < (n : Int) := by omega
          obtain ⟨Kc, lc, bc⟩ := c
          obtain ⟨⟨Kp, lp, bp⟩, hpj⟩ : ∃ x, p.getD j c0 = x := ⟨_, rfl⟩
          have HPJ := Lib.hid hpj
          obtain ⟨g, a1, c1, hva, hgb, hgl, hv1, hfz, k0, k1, k2, hp1, hK1⟩ := HROW.out.elem rfl (HLL.out (j + 1) hk) (j + 1) (by omega) (at_here p (Kc, lc, bc) _ (j + 1) (by rw [HPL.out]; exact hk))
          obtain ⟨g', a2, c2, hva2, -, -, hv2, -, m0, m1, m2, hp2, hK2⟩ := HROW.out.elem rfl (HLL.out (j + 1) hk) j (by omega) ((at_before p _ (j + 1) j (by rw [HPL.out]; exact hk) (by omega)).trans hpj)
          obtain rfl : g' = g := by rw [hva] at hva2; simp only [Option.some.injEq, Addr.mk.injEq] at hva2; exact hva2.1.symm
          subst hva
          obtain ⟨n1, hn1⟩ : ∃ n, lc.length = n := ⟨_, rfl⟩
          obtain ⟨n2, hn2⟩ : ∃ n, lp.length = n := ⟨_, rfl⟩
          rw [hn1] at k1 hp1 hv1
          rw [hn2] at m1 hp2 hv2
          have HP1 := Lib.hid hp1
          have HP2 := Lib.hid hp2
          have HK1 := Lib.hid hK1
          have HK2 := Lib.hid hK2
          obtain ⟨z, hz⟩ : ∃ z, compareF Kc lc Kp lp = z := ⟨_, rfl⟩
          have HCM : Hid (∀ W, Up wz W → Calls Tryd.prog 74 #[.agg #[.int .i64 Kc, .slice a1 n1 c1], .agg #[.int .i64 Kp, .slice a2 n2 c2]] W fun e w' => e = .returned (.int .i64 z) ∧ Up W w') := Lib.hid fun W hW => by
            rw [← hz]; exact r05_Compare Kc Kp _ _ lc lp W (hp1.1.1.up hW) (hp2.1.1.up hW)
          have HLS : Hid (lessC (Kc, lc, bc) (p.getD j c0) = decide (z < 0)) := Lib.hid (by rw [hpj, ← hz]; rfl)
          clear hva2 hpj hn1 hn2 hz hp1 hp2 hK1 hK2
          by_cases hzn : z < 0
          · have HPK : Hid (posR (Kc, lc, bc) p i = posR (Kc, lc, bc) p j) := Lib.hid (by
              rw [HPOS.out]
              show (if lessC (Kc, lc, bc) (p.getD j c0) then posR (Kc, lc, bc) p j else j + 1) = _
              rw [HLS.out, decide_eq_true hzn, if_pos rfl])
            go_wp2_with fail
            refine wp_region_ext (by kernel_rfl) (by kernel_rfl) ?_
            repeat (go_big_quiet_step ((go_at_call 74; exact Calls.ext_of (HCM.out _ (Ext.up _)))))
            refine wpQuiet_nil ?_
            intro x hx
            replace k0 := (hx.cell _ _ hgl).trans k0
            replace k1 := (hx.cell _ _ hgl).trans k1
            replace k2 := (hx.cell _ _ hgl).trans k2
            replace m0 := (hx.cell _ _ hgl).trans m0
            replace m1 := (hx.cell _ _ hgl).trans m1
            replace m2 := (hx.cell _ _ hgl).trans m2
            replace hfz := fun o => (hx.frozen _ o hgl).trans (hfz o)
            replace hgl := Nat.lt_of_lt_of_le hgl hx.size
            have HBX := Lib.hid (HBL.out.trans (Below.mono hx (by have := HBL.out.size; omega)))
            have HBS : Hid (B ≤ x.heap.size) := Lib.hid (by have := HBX.out.size; omega)
            have hne : (g' = x.heap.size) = False := by simp; omega
            have hne2 : (x.heap.size = g') = False := by simp; omega
            have HS1 := Lib.hid (((HROW.out.up hx).set (HLL.out (j + 1) hk) (j + 1) (by omega) Kp (.slice a2 n2 c2) lp bp (HP2.out.up hx) HK2.out).set (by rw [List.length_set]; exact HLL.out (j + 1) hk) j (by omega) Kc (.slice a1 n1 c1) lc bc (HP1.out.up hx).set.set.set HK1.out)
            have HSW := Lib.hid (swap_at p (Kc, lc, bc) X j (by rw [HPL.out]; exact hji))
            clear hx HROW HBL HP1 HP2 HCM
            go_wp2
            go_roundw
            case rel =>
              refine ⟨j, by omega, by go_num, (fun i' => if i' = j then .slice a1 n1 c1 else if i' = j + 1 then .slice a2 n2 c2 else vs2 i'), ?_, HPK.out, ?_⟩
              · have h := HS1.out
                rw [← HPJ.out, HSW.out] at h
                exact h.up ((Up.refl _).alloc _)
              · refine Below.alloc (Below.setCell (Below.setCell (Below.setCell (Below.setCell (Below.setCell (Below.setCell HBX.out ?_ _) ?_ _) ?_ _) ?_ _) ?_ _) ?_ _) ?_ _
                all_goals first | exact hgb | (simp only [set_size]; exact HBS.out)
            case measure => simp [intOf]; try omega
          · have HE : Hid (sortR (cs.take (i + 1)) [] ++ cs.drop (i + 1) = p.take (j + 1) ++ (Kc, lc, bc) :: (p.drop (j + 1) ++ X)) := Lib.hid (HNX.out (j + 1) (by
              rw [HPOS.out]
              show (if lessC (Kc, lc, bc) (p.getD j c0) then posR (Kc, lc, bc) p j else j + 1) = _
              rw [HLS.out, decide_eq_false hzn, if_neg (by simp)]))
            go_wp2_with fail
            refine wp_region_ext (by kernel_rfl) (by kernel_rfl) ?_
            repeat (go_big_quiet_step ((go_at_call 74; exact Calls.ext_of (HCM.out _ (Ext.up _)))))
            refine wpQuiet_nil ?_
            intro x hx
            have HX1 := Lib.hid (HROW.out.up hx)
            have HB1 := Lib.hid (HBL.out.trans (Below.mono hx (by have := HBL.out.size; omega)))
            clear hx k0 k1 k2 m0 m1 m2
            go_wp2
            go_roundw
            case rel => exact ⟨i + 1, vs2, by omega, by omega, by go_num, by rw [HE.out]; exact HX1.out, HB1.out⟩
            case measure => simp [intOf]; omega
    · have hltI : ¬ (i : Int) < n := by omega
      have HE : Hid (sortR (cs.take i) [] ++ cs.drop i = sortR cs []) := Lib.hid (by
        rw [List.take_of_length_le (by rw [HN.out]; omega), List.drop_eq_nil_of_le (by rw [HN.out]; omega), List.append_nil])
      go_wp2
      go_ret
      exact ⟨vs1, rfl, by rw [← HE.out]; exact HROW.out, HBL.out⟩
end Go.Proofs.YtahlecmlhdikjaaDoor
