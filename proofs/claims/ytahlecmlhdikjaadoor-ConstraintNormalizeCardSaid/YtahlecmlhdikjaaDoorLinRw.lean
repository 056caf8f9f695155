/-
  The reference's insert and Names: the walks.
-/
import Derived.Test.YtahlecmlhdikjaaDoorLinRn
namespace Go.Proofs.YtahlecmlhdikjaaDoor
open Go.ChangeShapes Go.WideShapes Go.ChangeAt Go.RowKit
set_option linter.unusedVariables false

theorem SlAt.own_strs {w : World} {base n : Nat} {v : Value} {l : List ByteArray} (h : w.ownsRow base 9 1 v n (strCells l)) (hn : n = l.length) (hm : n ≤ 9223372036854775807) : StrsAt w v l := by
  subst hn
  refine SlAt.of_own h hm fun i j hi hj => ?_
  obtain rfl : j = 0 := by omega
  rw [Nat.mul_one, Nat.add_zero]
  exact strCells_get hi

set_option maxHeartbeats 8000000 in
set_option maxRecDepth 100000 in
theorem r05_insert (base : Nat) (v : Value) (l : List ByteArray) (s : ByteArray) (w : World) (hown : NamesOwn w base v l) (hasc : ascN none l = true) (hn : l.length ≤ 100000) (hb : base ≤ w.heap.size) :
    Calls Tryd.prog 105 #[v, .string s] w fun e w' => InsPost base (insS s l) w e w' := by
  obtain ⟨i0, hi0, hz0, hz1, hz2⟩ := info_parts str_info
  have HS : Hid (StrsAt w v l) := Lib.hid (SlAt.own_strs hown rfl (by omega))
  have HO := Lib.hid hown
  obtain ⟨q, hq⟩ : ∃ q, hasB l s.toList = q := ⟨_, rfl⟩
  have HH : Hid (∀ w, StrsAt w v l → Calls Tryd.prog 106 #[v, .string s] w fun e w' => e = .returned (.bool q) ∧ w' = w) := Lib.hid fun w h => by
    have := base_Has s l v w h
    rw [hq] at this; exact this
  have HQ := Lib.hid hq
  have HA := Lib.hid hasc
  obtain ⟨n, hnn⟩ : ∃ n, l.length = n := ⟨_, rfl⟩
  have HN := Lib.hid hnn
  obtain ⟨R, hR⟩ : ∃ R, insS s l = R := ⟨_, rfl⟩
  rw [hR]
  have HR := Lib.hid hR
  have hn' : n ≤ 100000 := by omega
  have hnI : (n : Int) ≤ 100000 := by omega
  clear hown hq hasc hR hnn hn
  cases q
  · have hnot : ¬ s ∈ l := fun h => by
      have := (has_mem s l).2 h
      rw [HQ.out] at this; cases this
    have HNOT := Lib.hid hnot
    clear hnot
    go_enter Tryd.func105, Tryd.ntmps105
    go_wp2_with fail
    refine (HH.out _ HS.out).mono ?_
    rintro e x ⟨rfl, hx⟩
    replace hx := hx.symm
    subst hx
    have HO2 : Hid (w.ownsRow base 9 1 v n (strCells l)) := Lib.hid (by rw [← HN.out]; exact HO.out)
    have HSL := Lib.hid (str_sl w s 9)
    go_wp2_with (at_builtin; refine wpList_append_sl _ rfl (.tmp 11) (.tmp 13) 117 rfl base 9 i0 _ 1 16 Tryd.underlying117 hi0 hz0 hz1 hz2 rfl (by decide) v n _ rfl (HO2.out.alloc _) (.slice (some ⟨w.heap.size, 0, none⟩) 1 1) 1 _ rfl HSL.out (str_one s) (by unfold maxLen; omega) (by omega) (by simp; omega) ?_; intro v1 w1 hown1 hg1 hat1 hnil1; obtain ⟨g, cp, rfl, hgb, hgl, hcp, hfz, hcl⟩ := own_get hown1 (by omega); have HO1 := Lib.hid hown1; have HG1 := Lib.hid hg1; have HCL := Lib.hid hcl; clear hown1 hg1 hat1 hnil1 hcl)
    have hrow : Hid (w1.ownsRow base 9 1 (.slice (some ⟨g, 0, none⟩) (n + 1) cp) (n + 1) (strCells (atK l s n))) := Lib.hid (by
      have e : strCells l ++ flat (strF [s]) 1 1 = strCells (atK l s n) := by
        unfold atK
        rw [List.take_of_length_le (by rw [HN.out]; omega), List.drop_eq_nil_of_le (by rw [HN.out]; omega), str_flat]
        simp [strCells]
      rw [← e]; exact HO1.out)
    have HB1 : Hid (Below base w w1) := Lib.hid (Below.grown ((Below.refl base w).alloc hb _) HG1.out (by simp; omega) (fun k hk => (HO.out.lt k hk).1))
    clear HO1 HG1 HCL HS HSL HO2 HH hi0 hz0 hz1 hz2 hfz hgl
    go_loopw [5] (fun i wr => ∃ k : Nat, k ≤ n ∧ i = .int .i64 k ∧ wr.ownsRow base 9 1 (.slice (some ⟨g, 0, none⟩) (n + 1) cp) (n + 1) (strCells (atK l s k)) ∧ (∀ t ∈ l.drop k, Op.bytesLess s.toList t.toList = true) ∧ Below base w wr) (fun i _ => (intOf i).toNat)
    case atStart => exact ⟨n, by omega, rfl, hrow.out, (by rw [List.drop_eq_nil_of_le (by rw [HN.out]; omega)]; exact fun t ht => nomatch ht), HB1.out⟩
    case round =>
      rename_i wr
      obtain ⟨k, hk, rfl, hO, hP, hBl⟩ := hrel
      have HO1 := Lib.hid hO
      have HP := Lib.hid hP
      have HBl := Lib.hid hBl
      obtain ⟨g', cp', hv', hgb', hgl, _, hfz, hcl⟩ := own_get hO (by omega)
      obtain ⟨rfl, rfl⟩ : g = g' ∧ cp = cp' := by
        simp only [Value.slice.injEq, Option.some.injEq, Addr.mk.injEq] at hv'
        exact ⟨hv'.1.1, hv'.2.2⟩
      have HCL := Lib.hid hcl
      have hgs : g < wr.heap.size + 1 := by omega
      clear hO hP hBl hv' hgb' hcl
      cases k with
      | zero =>
        have hend : Hid (atK l s 0 = R) := Lib.hid (by
          rw [← HR.out, ins_at s 0 l none HA.out HNOT.out (by omega) HP.out (fun j hj => by omega)]; rfl)
        go_wp2_with fail
        refine wp_region_ext (by kernel_rfl) (by kernel_rfl) ?_
        repeat (go_big_quiet_step (fail))
        refine wpQuiet_nil ?_
        intro x hx
        go_wp2
        go_ret
        refine ⟨_, rfl, ?_, HBl.out.trans (Below.mono hx (by have := HBl.out.size; omega))⟩
        have h1 := own_up HO1.out hx
        rw [hend.out] at h1
        have e : n + 1 = R.length := by rw [← hend.out, atK_len _ _ _ (by omega), HN.out]
        unfold NamesOwn
        rw [← e]; exact h1
      | succ j =>
        have hj : j < n := by omega
        have hkp : (0 : Int) < ((j + 1 : Nat) : Int) := by omega
        have hkm : ((j + 1 : Nat) : Int) - 1 = (j : Int) := by omega
        have hj0 : (0 : Int) ≤ (j : Int) := by omega
        have hjn : (j : Int) < (n : Int) + 1 := by omega
        have hjn2 : ((j + 1 : Nat) : Int) < (n : Int) + 1 := by omega
        obtain ⟨u, hu⟩ : ∃ u, l.getD j ⟨#[]⟩ = u := ⟨_, rfl⟩
        have c0 : wr.cell? ⟨g, j, none⟩ = some (.string u) := by rw [← hu]; exact HCL.out j _ (atK_before l s (j + 1) j (by rw [HN.out]; omega) (by omega))
        have c1 : wr.cell? ⟨g, j + 1, none⟩ = some (.string s) := HCL.out (j + 1) _ (atK_here l s (j + 1) (by rw [HN.out]; omega))
        obtain ⟨b, hb2⟩ : ∃ b, Op.bytesLess s.toList u.toList = b := ⟨_, rfl⟩
        have HU := Lib.hid hu
        have HB2 := Lib.hid hb2
        clear hu HCL
        cases b
        · have hus : Op.bytesLess u.toList s.toList = true := by
            cases hx : Op.bytesLess u.toList s.toList
            · have e := toList_inj (bl_total _ _ hx HB2.out)
              refine absurd ?_ HNOT.out
              rw [← e, ← HU.out, List.getD_eq_getElem?_getD, List.getElem?_eq_getElem (by rw [HN.out]; exact hj)]
              exact List.getElem_mem _
            · rfl
          have hend : Hid (atK l s (j + 1) = R) := Lib.hid (by
            rw [← HR.out, ins_at s (j + 1) l none HA.out HNOT.out (by rw [HN.out]; omega) HP.out (fun i hi => by
              obtain rfl : j = i := by omega
              rw [HU.out]; exact HB2.out)]; rfl)
          go_wp2_with fail
          refine wp_region_ext (by kernel_rfl) (by kernel_rfl) ?_
          repeat (go_big_quiet_step (fail))
          refine wpQuiet_nil ?_
          intro x hx
          go_wp2
          go_ret
          refine ⟨_, rfl, ?_, HBl.out.trans (Below.mono hx (by have := HBl.out.size; omega))⟩
          have h1 := own_up HO1.out hx
          rw [hend.out] at h1
          have e : n + 1 = R.length := by rw [← hend.out, atK_len _ _ _ (by rw [HN.out]; omega), HN.out]
          unfold NamesOwn
          rw [← e]; exact h1
        · have hus : Op.bytesLess u.toList s.toList = false := bl_asymm _ _ HB2.out
          have hne : (u.toList == s.toList) = false := by
            cases hx : (u.toList == s.toList)
            · rfl
            · have e := beq_toList.1 hx
              subst e
              rw [HB2.out] at hus; cases hus
          have HP2 : Hid (∀ t ∈ l.drop j, Op.bytesLess s.toList t.toList = true) := Lib.hid (by
            intro t ht
            rw [List.drop_eq_getElem_cons (by rw [HN.out]; exact hj)] at ht
            rcases List.mem_cons.1 ht with e | e
            · have e2 : l.getD j ⟨#[]⟩ = l[j]'(by rw [HN.out]; exact hj) := by rw [List.getD_eq_getElem?_getD, List.getElem?_eq_getElem (by rw [HN.out]; exact hj)]; rfl
              rw [e, ← e2, HU.out]; exact HB2.out
            · exact HP.out t e)
          go_wp2_with fail
          refine wp_region_ext (by kernel_rfl) (by kernel_rfl) ?_
          repeat (go_big_quiet_step (fail))
          refine wpQuiet_nil ?_
          intro x hx
          have HOx := Lib.hid (own_up HO1.out hx)
          have c0 : x.cell? ⟨g, j, none⟩ = some (.string u) := (hx.cell _ _ hgl).trans c0
          have c1 : x.cell? ⟨g, j + 1, none⟩ = some (.string s) := (hx.cell _ _ hgl).trans c1
          have hfz : ∀ o, x.frozen? ⟨g, o, none⟩ = false := fun o => (hx.frozen _ _ hgl).trans (hfz o)
          have hgl : g < x.heap.size := Nat.lt_of_lt_of_le hgl hx.size
          have HBx := Lib.hid (HBl.out.trans (Below.mono hx (by have := HBl.out.size; omega)))
          clear hx
          go_wp2
          go_roundw
          case rel =>
            refine ⟨j, by omega, by go_num, ?_, HP2.out, ?_⟩
            · have h1 := own_set (own_set HOx.out (j + 1) (by rw [strCells_len, atK_len _ _ _ (by rw [HN.out]; omega), HN.out]; omega) (.string u)) j (by rw [List.length_set, strCells_len, atK_len _ _ _ (by rw [HN.out]; omega), HN.out]; omega) (.string s)
              rw [← HU.out, atK_swap l s j (by rw [HN.out]; exact hj)] at h1
              rw [← HU.out]
              exact h1
            · exact (HBx.out.setCell (by exact hgb) _).setCell (by exact hgb) _
          case measure => simp [intOf]; try omega
  · obtain rfl : l = R := by rw [← HR.out]; exact (ins_has s l none HA.out ((has_mem s l).1 HQ.out)).symm
    go_enter Tryd.func105, Tryd.ntmps105
    go_wp2_with fail
    refine (HH.out _ HS.out).mono ?_
    rintro e x ⟨rfl, hx⟩
    replace hx := hx.symm
    subst hx
    go_wp2
    go_ret
    exact ⟨_, rfl, HO.out, Below.refl _ _⟩

theorem Up.trans2 {w x y : World} {B : Nat} (h : Up w x) (hB : w.heap.size = B) (k : Below B x y) : Up w y := Below.trans h (hB ▸ k)

/-- A list of linear forms. -/
def linF (ls : List (Int × List Mono)) (vs : Nat → Value) (i j : Nat) : Value := match j with
  | 0 => .int .i64 (ls.getD i (0, [])).1
  | _ => vs i
def LinsAt (w : World) (v : Value) (ls : List (Int × List Mono)) : Prop := ∃ vs : Nat → Value, SlAt w v ls.length 2 (linF ls vs) ∧ ∀ i, i < ls.length → MonosAt w (vs i) (ls.getD i (0, [])).2
theorem LinsAt.slice {w : World} {v : Value} {ls : List (Int × List Mono)} (h : LinsAt w v ls) : (∃ a cap, v = .slice a ls.length cap) ∧ ls.length ≤ 9223372036854775807 := by
  obtain ⟨vs, ⟨⟨a, cap, hv, _, _⟩, hm⟩, _⟩ := h
  exact ⟨⟨a, cap, hv⟩, hm⟩
theorem LinsAt.up {w w' : World} {v : Value} {ls : List (Int × List Mono)} (h : LinsAt w v ls) (u : Up w w') : LinsAt w' v ls := by
  obtain ⟨vs, h1, h2⟩ := h
  exact ⟨vs, h1.up u, fun i hi => (h2 i hi).up u⟩
theorem LinsAt.elem {w wr : World} {v : Value} {ls : List (Int × List Mono)} (h : LinsAt w v ls) (hU : Up w wr) (k : Nat) (hk : k < ls.length) {n : Nat} (hn : ls.length = n) {a : Option Addr} {cap : Nat} (hv : v = .slice a n cap) :
    ∃ bl off lv K l, a = some ⟨bl, off, none⟩ ∧ bl < w.heap.size ∧ ls.getD k (0, []) = (K, l) ∧ wr.cell? ⟨bl, off + k * 2, none⟩ = some (.int .i64 K) ∧ wr.cell? ⟨bl, off + k * 2 + 1, none⟩ = some lv ∧ MonosAt wr lv l := by
  subst hn
  obtain ⟨vs, ⟨⟨a', cap', hv', h0, hc⟩, hmax⟩, hl⟩ := h
  rw [hv'] at hv
  simp only [Value.slice.injEq] at hv
  obtain ⟨rfl, -, rfl⟩ := hv
  cases a' with
  | none => exact absurd (h0 rfl) (by omega)
  | some x =>
    obtain ⟨g1, g2, g3⟩ := hc x rfl (by omega)
    obtain ⟨bl, off, sp⟩ := x
    have g1' : sp = none := g1
    subst g1'
    have g2' : bl < w.heap.size := g2
    have c0 := (hU.cell _ _ g2').trans (g3 k 0 hk (by omega))
    have c1 := (hU.cell _ _ g2').trans (g3 k 1 hk (by omega))
    exact ⟨bl, off, vs k, (ls.getD k (0, [])).1, (ls.getD k (0, [])).2, rfl, g2', rfl, c0, c1, (hl k hk).up hU⟩

theorem nameF_snoc (ns : List ByteArray) (l : List Mono) (m : Mono) : nameF ns (l ++ [m]) = insS m.1 (nameF ns l) := by simp [nameF]
theorem take_snoc2 {α : Type} {l : List α} {k : Nat} (hk : k < l.length) {m d : α} (h : l.getD k d = m) : l.take (k + 1) = l.take k ++ [m] := by
  have e : l[k]? = some m := by
    rw [List.getElem?_eq_getElem hk]
    rw [List.getD_eq_getElem?_getD, List.getElem?_eq_getElem hk] at h
    exact congrArg some h
  rw [List.take_add_one, e]; rfl
def namesK (ls : List (Int × List Mono)) (i : Nat) : List ByteArray := ((ls.take i).map (·.2)).foldl nameF []
theorem namesK_succ {ls : List (Int × List Mono)} {i : Nat} (hi : i < ls.length) {K : Int} {l : List Mono} (h : ls.getD i (0, []) = (K, l)) : namesK ls (i + 1) = nameF (namesK ls i) l := by
  unfold namesK
  rw [take_snoc2 hi h, List.map_append, List.foldl_append]; rfl
theorem fold_len : ∀ (ls : List (List Mono)) (ns : List ByteArray), (∀ l ∈ ls, l.length ≤ 1000) → (ls.foldl nameF ns).length ≤ ns.length + 1000 * ls.length
  | [], ns, _ => by simp
  | l :: r, ns, h => by
    have h1 := fold_len r (nameF ns l) fun x hx => h x (by simp [hx])
    have h2 := namesF_len l ns
    have h3 := h l (by simp)
    rw [List.foldl_cons, List.length_cons]; omega
def NamesPost (w : World) (l : List ByteArray) (e : Ending) (w' : World) : Prop := ∃ v, e = .returned v ∧ NamesOwn w' w.heap.size v l ∧ Up w w'

set_option maxHeartbeats 8000000 in
theorem r05_Names (v : Value) (ls : List (Int × List Mono)) (w : World) (hv : LinsAt w v ls) (hn : ls.length ≤ 10) (hl : ∀ x ∈ ls, x.2.length ≤ 1000) :
    Calls Tryd.prog 89 #[v] w fun e w' => NamesPost w (namesF (ls.map (·.2))) e w' := by
  obtain ⟨⟨a, cap, rfl⟩, hmax⟩ := hv.slice
  obtain ⟨n, hnn⟩ : ∃ n, ls.length = n := ⟨_, rfl⟩
  rw [hnn] at hv hn hmax ⊢
  have HV := Lib.hid hv
  have HN := Lib.hid hnn
  have HL := Lib.hid hl
  obtain ⟨R, hR⟩ : ∃ R, namesF (ls.map (·.2)) = R := ⟨_, rfl⟩
  rw [hR]
  have HR := Lib.hid hR
  have hnI : (n : Int) ≤ 10 := by omega
  clear hv hnn hl hR
  obtain ⟨B, hB⟩ : ∃ B, w.heap.size = B := ⟨_, rfl⟩
  have HB := Lib.hid hB
  have hBw : B ≤ w.heap.size := by omega
  unfold NamesPost
  rw [hB]
  clear hB
  go_enter Tryd.func89, Tryd.ntmps89
  go_wp2
  go_loopw [3, 4] (fun v iv wr => ∃ i : Nat, i ≤ n ∧ iv = .int .i64 i ∧ NamesOwn wr B v (namesK ls i) ∧ Up w wr) (fun _ iv _ => n - (intOf iv).toNat)
  case atStart => exact ⟨0, by omega, rfl, World.ownsRow_nil _ _ _ _, Up.refl _⟩
  case round =>
    rename_i wr
    obtain ⟨i, hi, rfl, hO, hU⟩ := hrel
    obtain ⟨wo, rfl⟩ : ∃ wo : World, wo = wr := ⟨_, rfl⟩
    have HO := Lib.hid hO
    have HU := Lib.hid hU
    clear hO
    by_cases hlt : i < n
    · have hlt2 : (i : Int) < (n : Int) := by omega
      have hi0 : (0 : Int) ≤ (i : Int) := by omega
      obtain ⟨bl, off, lv, K, l, rfl, p1, p2, p3, p4, p5⟩ := HV.out.elem (Up.refl w) i (by rw [HN.out]; exact hlt) HN.out rfl
      have hlen : l.length ≤ 1000 := by
        have := HL.out (ls.getD i (0, [])) (by
          rw [List.getD_eq_getElem?_getD, List.getElem?_eq_getElem (by rw [HN.out]; exact hlt)]; exact List.getElem_mem _)
        rw [p2] at this; exact this
      have HK := Lib.hid (namesK_succ (by rw [HN.out]; exact hlt) p2)
      have HAS : Hid (ascN none (namesK ls i) = true) := Lib.hid (foldName_asc _ _ rfl)
      have HNL : Hid ((namesK ls i).length ≤ 10000) := Lib.hid (by
        have := fold_len ((ls.take i).map (·.2)) [] (fun x hx => by
          obtain ⟨y, hy, rfl⟩ := List.mem_map.1 hx
          exact HL.out y (List.mem_of_mem_take hy))
        have h2 : ((ls.take i).map (·.2)).length ≤ i := by rw [List.length_map]; exact List.length_take_le _ _
        have h3 : (namesK ls i).length ≤ 0 + 1000 * ((ls.take i).map (·.2)).length := this
        omega)
      obtain ⟨ns, hns⟩ : ∃ ns, namesK ls i = ns := ⟨_, rfl⟩
      rw [hns] at HK HAS HNL HO
      obtain ⟨al, cl, rfl⟩ := p5.slice
      obtain ⟨m, hm⟩ : ∃ m, l.length = m := ⟨_, rfl⟩
      rw [hm] at p4 hlen
      have hp5 := p5
      rw [hm] at hp5
      have HM := Lib.hid hp5
      have HLM := Lib.hid hm
      have P4 := Lib.hid p4
      clear p2 p3 p4 p5 hp5 hm hns hU
      have hbl : bl < wo.heap.size := by have := HU.out.size; omega
      have c1 : wo.cell? ⟨bl, off + i * 2 + 1, none⟩ = some (.slice al m cl) := (HU.out.cell _ _ p1).trans P4.out
      go_wp2
      clear c1
      go_loopw [3, 5] (fun v kv wr => ∃ k : Nat, k ≤ m ∧ kv = .int .i64 k ∧ NamesOwn wr B v (nameF ns (l.take k)) ∧ Up w wr) (fun _ kv _ => m - (intOf kv).toNat)
      case atStart => exact ⟨0, by omega, rfl, HO.out, HU.out⟩
      case round =>
        rename_i wr
        obtain ⟨k, hk, rfl, hO, hU⟩ := hrel
        have HO2 := Lib.hid hO
        have HU2 := Lib.hid hU
        have c1 : wr.cell? ⟨bl, off + i * 2 + 1, none⟩ = some (.slice al m cl) := (hU.cell _ _ p1).trans P4.out
        have hbr : bl < wr.heap.size := by have := hU.size; omega
        clear hO
        by_cases hlk : k < m
        · have hlk2 : (k : Int) < (m : Int) := by omega
          have hk0 : (0 : Int) ≤ (k : Int) := by omega
          obtain ⟨bl', off', s, b, rfl, q1, q2, q3, q4⟩ := HM.out.elem hU k (by rw [HLM.out]; exact hlk) HLM.out rfl
          have HT : Hid (nameF ns (l.take (k + 1)) = insS s (nameF ns (l.take k))) := Lib.hid (by
            rw [take_snoc2 (by rw [HLM.out]; exact hlk) q2, nameF_snoc])
          have HL2 : Hid ((nameF ns (l.take k)).length ≤ 100000) := Lib.hid (by
            have h1 := namesF_len (l.take k) ns
            have h2 : (l.take k).length ≤ k := List.length_take_le _ _
            have := HNL.out
            omega)
          have hbr' : bl' < wr.heap.size := by have := hU.size; omega
          clear hU q2
          go_wp2_with fail
          refine (r05_insert B _ (nameF ns (l.take k)) s wr HO2.out (nameF_asc _ _ HAS.out) HL2.out (by have := HU2.out.size; omega)).mono ?_
          rintro e x ⟨v2, rfl, ho2, hx⟩
          have HO3 := Lib.hid ho2
          have HU3 : Hid (Up w x) := Lib.hid (HU2.out.trans2 HB.out hx)
          clear ho2 hx
          go_wp2
          go_roundw
          case rel => exact ⟨k + 1, by omega, by go_num, by rw [HT.out]; exact HO3.out, HU3.out⟩
          case measure => simp [intOf]; omega
        · have hlk2 : (m : Int) ≤ (k : Int) := by omega
          have HE : Hid (nameF ns (l.take k) = namesK ls (i + 1)) := Lib.hid (by
            rw [HK.out, List.take_of_length_le (by rw [HLM.out]; omega)])
          clear hU
          go_wp2
          go_roundw
          case rel => exact ⟨i + 1, by omega, by go_num, by rw [← HE.out]; exact HO2.out, HU2.out⟩
          case measure => simp [intOf]; omega
    · have hlt2 : (n : Int) ≤ (i : Int) := by omega
      have HE : Hid (namesK ls i = R) := Lib.hid (by
        rw [← HR.out]
        unfold namesK namesF
        rw [List.take_of_length_le (by rw [HN.out]; omega)])
      clear hU
      go_wp2
      go_ret
      exact ⟨_, rfl, by rw [← HE.out]; exact HO.out, HU.out⟩
end Go.Proofs.YtahlecmlhdikjaaDoor
