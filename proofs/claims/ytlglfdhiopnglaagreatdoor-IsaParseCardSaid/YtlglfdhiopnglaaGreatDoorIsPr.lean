/-
  The reference 47, reading: Parse.
-/
import Derived.Test.YtlglfdhiopnglaaGreatDoorIsIh
import Derived.Test.YtlglfdhiopnglaaGreatDoorIsH
namespace Go.Proofs.YtlglfdhiopnglaaGreatDoor
open Go.ChangeShapes Go.WideShapes Go.ChangeAt Go.RowKit
set_option linter.unusedVariables false
set_option linter.unusedSimpArgs false
set_option maxRecDepth 100000

theorem rd_ri (l : List UInt8) : (rdL l).2 = (riF l).2 ∧ ((rdL l).2 = true → (rdL l).1 = (riF l).1) := by
  have h1 : (rdL l).2 = true → riF l = ((rdL l).1, true) := fun h => by
    obtain ⟨hw, hl⟩ := rdLine_ok h
    rw [bst_list] at hl
    rw [wf_form] at hw
    have := riF_lineL hw
    rw [hl] at this
    exact this
  have h2 : (riF l).2 = true → rdL l = ((riF l).1, true) := fun h => by
    obtain ⟨hw, hl⟩ := riF_ok h
    have := rdLine_lineL (x := (riF l).1) (by rw [wf_form]; exact hw) (bst l) (by rw [bst_list]; exact hl.symm)
    exact this
  refine ⟨?_, fun h => by rw [h1 h]⟩
  cases ha : (rdL l).2 with
  | true => rw [h1 ha]
  | false =>
    cases hb : (riF l).2 with
    | false => rfl
    | true => rw [h2 hb] at ha; cases ha
theorem riF_R {l : List UInt8} (h : (riF l).2 = true) : InR (riF l).1 := by
  obtain ⟨h1, h2⟩ := rd_ri l
  rw [← h2 (h1.trans h)]
  exact rdLine_R (bst l)
theorem lnF_word {l : List UInt8} (h : (10 : UInt8) ∉ l) : lnF l = ([], l) := by
  induction l with
  | nil => rfl
  | cons b r ih =>
    have hb : b ≠ 10 := fun e => h (e ▸ List.mem_cons_self)
    unfold lnF
    rw [if_neg hb, ih (fun hm => h (List.mem_cons_of_mem _ hm))]
theorem lnF_app {a b : List UInt8} (h : (10 : UInt8) ∉ a) : lnF (a ++ 10 :: b) = (a :: (lnF b).1, (lnF b).2) := by
  induction a with
  | nil => show lnF (10 :: b) = _; rw [lnF, if_pos rfl]
  | cons c r ih =>
    have hb : c ≠ 10 := fun e => h (e ▸ List.mem_cons_self)
    show lnF (c :: (r ++ 10 :: b)) = _
    rw [lnF, if_neg hb, ih (fun hm => h (List.mem_cons_of_mem _ hm))]
/-- A text cut into lines, from the left. -/
def LnAt (S : List UInt8) (O : List (List UInt8)) (st i : Nat) : Prop :=
  st ≤ i ∧ i ≤ S.length ∧ (lnF S).1 = O ++ (lnF (S.drop st)).1 ∧ (lnF S).2 = (lnF (S.drop st)).2 ∧ (10 : UInt8) ∉ (S.drop st).take (i - st)
theorem LnAt.start (S : List UInt8) : LnAt S [] 0 0 := ⟨by omega, by omega, rfl, rfl, by simp⟩
theorem LnAt.next {S : List UInt8} {O : List (List UInt8)} {st i : Nat} (h : LnAt S O st i) (hi : i < S.length) (hb : S.getD i 0 ≠ 10) : LnAt S O st (i + 1) := by
  obtain ⟨h1, h2, h3, h5, h4⟩ := h
  refine ⟨by omega, by omega, h3, h5, ?_⟩
  rw [show i + 1 - st = (i - st) + 1 by omega, List.take_add_one, List.mem_append]
  rintro (h | h)
  · exact h4 h
  · rw [List.getElem?_drop, show st + (i - st) = i by omega, List.getElem?_eq_getElem hi] at h
    simp only [Option.toList_some, List.mem_singleton] at h
    apply hb
    rw [List.getD_eq_getElem?_getD, List.getElem?_eq_getElem hi, h]; rfl
theorem LnAt.cut {S : List UInt8} {O : List (List UInt8)} {st i : Nat} (h : LnAt S O st i) (hi : i < S.length) (hb : S.getD i 0 = 10) : LnAt S (O ++ [(S.drop st).take (i - st)]) (i + 1) (i + 1) := by
  obtain ⟨h1, h2, h3, h5, h4⟩ := h
  have e : S.drop st = (S.drop st).take (i - st) ++ 10 :: S.drop (i + 1) := by
    conv => lhs; rw [← List.take_append_drop (i - st) (S.drop st)]
    rw [List.drop_drop, show st + (i - st) = i by omega, List.drop_eq_getElem_cons hi]
    rw [List.getD_eq_getElem?_getD, List.getElem?_eq_getElem hi] at hb
    simp only [Option.getD_some] at hb
    rw [hb]
  have f := lnF_app (b := S.drop (i + 1)) h4
  rw [← e] at f
  refine ⟨by omega, by omega, ?_, ?_, by simp⟩
  · rw [h3, f, List.append_assoc]; rfl
  · rw [h5, f]
theorem LnAt.fin {S : List UInt8} {O : List (List UInt8)} {st : Nat} (h : LnAt S O st S.length) : lnF S = (O, S.drop st) := by
  obtain ⟨h1, h2, h3, h5, h4⟩ := h
  rw [List.take_of_length_le (by simp)] at h4
  have f := lnF_word h4
  rw [f] at h3 h5
  rw [List.append_nil] at h3
  exact Prod.ext h3 h5
theorem LnAt.len {S : List UInt8} {O : List (List UInt8)} {st i : Nat} (h : LnAt S O st i) : ∀ t ∈ O, t.length ≤ S.length := by
  obtain ⟨h1, h2, h3, h5, h4⟩ := h
  intro t ht
  have hm : t ∈ (lnF S).1 := by rw [h3]; exact List.mem_append_left _ ht
  have hl : ∀ (ls : List (List UInt8)) (r : List UInt8), t ∈ ls → t.length ≤ (ls.flatMap (· ++ [10]) ++ r).length := by
    intro ls r hm
    induction ls with
    | nil => cases hm
    | cons x q ih =>
      rw [List.flatMap_cons, List.append_assoc, List.length_append, List.length_append]
      rcases List.mem_cons.1 hm with rfl | hm
      · omega
      · have := ih hm; omega
  have := hl _ (lnF S).2 hm
  rwa [lnF_text] at this
theorem InsAt.niln (w : World) : InsAt w (.slice none 0 0) [] := InsAt.nil w
theorem map_getD_bst (L : List (List UInt8)) (j : Nat) : (L.map bst).getD j ⟨#[]⟩ = bst (L.getD j []) := by
  rw [List.getD_eq_getElem?_getD, List.getElem?_map, List.getD_eq_getElem?_getD]
  cases L[j]? <;> rfl
theorem drop_getD {L : List (List UInt8)} {k n : Nat} (hn : L.length = n) (hk : k < n) : L.drop k = L.getD k [] :: L.drop (k + 1) := by
  have hk' : k < L.length := by rw [hn]; exact hk
  rw [List.drop_eq_getElem_cons hk']
  congr 1
  rw [List.getD_eq_getElem?_getD, List.getElem?_eq_getElem hk']; rfl

set_option maxHeartbeats 16000000 in
theorem r47_Parse (S : List UInt8) (hS : S.length ≤ 10000) (w : World) :
    Calls Tryz.prog 17 #[.string (bst S)] w fun e w' => ∃ v, e = .returned (.tuple #[v, .int .i64 (parseF riF S).2.1, .int .i64 (parseF riF S).2.2]) ∧ Up w w' ∧ InsAt w' v (parseF riF S).1 := by
  obtain ⟨j0, hi0, hz0, hz1, hz2⟩ := info_parts string_info
  obtain ⟨j1, gi0, gz0, gz1, gz2⟩ := info_parts ins_info
  obtain ⟨r, hr⟩ : ∃ r, parseF riF S = r := ⟨_, rfl⟩
  rw [hr]
  obtain ⟨n, hn⟩ : ∃ n, S.length = n := ⟨_, rfl⟩
  rw [hn] at hS
  have hz : (bst S).size = n := by simp [bst, ByteArray.size, hn]
  have HN := Lib.hid hn
  have HR := Lib.hid hr
  have hnI : (n : Int) ≤ 10000 := by omega
  have HIX := Lib.hid (fun (i : Nat) (k : Int) (hk : k = i) (hi : i < n) w => str_index S i k hk (by rw [hn]; exact hi) w)
  have HSL : Hid (∀ st i : Nat, st ≤ i → i ≤ n → (bst S).extract st i = bst ((S.drop st).take (i - st))) := Lib.hid (fun st i h1 h2 => by
    apply ByteArray.ext
    rw [ByteArray.data_extract]
    show (S.toArray).extract st i = _
    rw [List.extract_toArray, List.extract_eq_take_drop]
    rfl)
  clear hn hr
  obtain ⟨B, hB⟩ : ∃ B, bst S = B := ⟨_, rfl⟩
  rw [hB] at HIX HSL hz ⊢
  have HZ := Lib.hid hz
  clear hz hB
  go_enter Tryz.func17, Tryz.ntmps17
  go_wp2
  go_loopw [5, 6, 7] (fun ov sv iv wr => ∃ (O : List (List UInt8)) (st i : Nat), i ≤ n ∧ sv = .int .i64 st ∧ iv = .int .i64 i ∧ LnAt S O st i ∧ O.length ≤ i ∧ wr.ownsRow w.heap.size 9 1 ov O.length (strsV (O.map bst)) ∧ Up w wr) (fun _ _ iv _ => n - (intOf iv).toNat)
  case atStart => exact ⟨[], 0, 0, by omega, rfl, rfl, LnAt.start S, by simp, ⟨rfl, .inl ⟨rfl, rfl⟩⟩, Up.refl _⟩
  case round =>
    rename World => wr
    obtain ⟨O, st, i, hi, rfl, rfl, hwd, hol, hown, hup⟩ := hrel
    obtain ⟨oa, oc, rfl⟩ := own_slice hown
    have HOWN := Lib.hid hown
    have HU := Lib.hid hup
    have HW := Lib.hid hwd
    obtain ⟨m, hm⟩ : ∃ m, O.length = m := ⟨_, rfl⟩
    have HM := Lib.hid hm
    rw [hm] at hol HOWN ⊢
    clear hown hup hwd hm
    by_cases h1 : i < n
    · have h1I : (i : Int) < (B.size : Int) := by rw [HZ.out]; omega
      obtain ⟨c, hc⟩ : ∃ c, S.getD i 0 = c := ⟨_, rfl⟩
      have hix := HIX.out i i rfl h1
      rw [hc] at hix
      by_cases hcs : c = 10
      · have HC := Lib.hid (hc.trans hcs)
        subst hcs
        have hix' : ∀ (w : World), (Instr.index 9 (.string B) (.int .i64 (i : Int))).run Tryz.prog w = .ok (.int .u8 10) w := hix
        have hst : st ≤ i := HW.out.1
        have hstI : (st : Int) ≤ i := by omega
        have h1J : (i : Int) ≤ (B.size : Int) := by omega
        have hsl := HSL.out st i hst (by omega)
        obtain ⟨Q, hQ⟩ : ∃ Q, bst ((S.drop st).take (i - st)) = Q := ⟨_, rfl⟩
        rw [hQ] at hsl
        have HQ := Lib.hid hQ
        clear hc hQ hix
        go_wp2_with (at_builtin; refine wpList_append_sl _ rfl _ _ 69 rfl w.heap.size 9 j0 _ 1 16 Tryz.underlying69 hi0 hz0 hz1 hz2 rfl (by decide) (.slice oa m oc) m _ rfl (own_up' HOWN.out ((Up.refl wr).alloc _)) (.slice (some ⟨wr.heap.size, 0, none⟩) 1 1) 1 (fun _ _ => .string Q) rfl (SlAt.lay wr _ #[.string Q] 1 1 _ (by decide) (fun i j hi hj => by obtain rfl : i = 0 := (by omega); obtain rfl : j = 0 := (by omega); rfl)) (fun i j _ _ => rfl) (by unfold maxLen; omega) (by omega) (by have := (HU.out.trans ((Up.refl wr).alloc (.cells #[.string Q] 9))).size; omega) ?_; intro v' w2 ho2 hg2 hat2 hnil2; obtain ⟨wb, wd, rfl⟩ := own_slice ho2; have HO2 := Lib.hid ho2; have HG2 := Lib.hid hg2; clear ho2 hg2 hat2 hnil2)
        have HON : Hid (w2.ownsRow w.heap.size 9 1 (.slice wb (m + 1) wd) (m + 1) (strsV ((O ++ [(S.drop st).take (i - st)]).map bst))) := Lib.hid (by
          have h := HO2.out
          rw [List.map_append]
          unfold strsV at h ⊢
          rw [List.map_append]
          rw [← HQ.out] at h
          exact h)
        have HU2 := Lib.hid ((HU.out.trans ((Up.refl wr).alloc (.cells #[.string Q] 9))).grown HG2.out fun g hg => by have := own_base HOWN.out g hg; omega)
        have HM2 : Hid ((O ++ [(S.drop st).take (i - st)]).length = m + 1) := Lib.hid (by rw [List.length_append, HM.out]; rfl)
        try go_roundw
        case rel => exact ⟨_, i + 1, i + 1, by omega, by go_num, by go_num, HW.out.cut (by rw [HN.out]; exact h1) HC.out, by rw [HM2.out]; omega, by rw [HM2.out]; exact HON.out, HU2.out⟩
        case measure => simp [intOf]; omega
      · have HC := Lib.hid (fun e : S.getD i 0 = 10 => hcs (hc.symm.trans e))
        have hcq : ((c.toNat : Int) == 10) = false := by
          simp only [beq_eq_false_iff_ne]; intro e; apply hcs; apply UInt8.toNat.inj; show c.toNat = 10; omega
        clear hc hcs
        obtain ⟨d, hd⟩ : ∃ d : Int, (c.toNat : Int) = d := ⟨_, rfl⟩
        rw [hd] at hix hcq
        clear hd
        go_wp2
        try go_roundw
        case rel => exact ⟨O, st, i + 1, by omega, rfl, by go_num, HW.out.next (by rw [HN.out]; exact h1) HC.out, by rw [HM.out]; omega, by rw [HM.out]; exact HOWN.out, HU.out⟩
        case measure => simp [intOf]; omega
    · obtain rfl : i = n := by omega
      have h1I : ¬ (i : Int) < (B.size : Int) := by rw [HZ.out]; omega
      have HF : Hid (lnF S = (O, S.drop st)) := Lib.hid (by have := HW.out; rw [← HN.out] at this; exact this.fin)
      have HLEN : Hid (∀ t ∈ O, t.length ≤ 10000) := Lib.hid (fun t ht => Nat.le_trans (HW.out.len t ht) (by rw [HN.out]; exact hS))
      have HST : Hid (StrsAt wr (.slice oa m oc) (O.map bst)) := Lib.hid (StrsAt.own HOWN.out (by rw [List.length_map]; exact HM.out) (by omega))
      have hsi : st ≤ i := HW.out.1
      have hmI : (m : Int) ≤ 10000 := by omega
      have hq1 : ¬ (65536 : Int) < (m : Int) := by omega
      have hq2 : ¬ (65536 : Int) < (m : Int) + 1 := by omega
      have HRS : Hid ((if S.drop st = [] then prsG riF O [] 0 [] else prsG riF O (S.drop st) 0 []) = r) := Lib.hid (by
        have h := HR.out
        unfold parseF at h
        rw [if_neg, HF.out] at h
        · rw [← h]; split
          · rename_i e; rw [e]
          · rfl
        · unfold lnP
          rw [HF.out, List.length_append, List.length_map]
          have : ∀ l : List UInt8, (if l = [] then ([] : List (List UInt8)) else [l]).length ≤ 1 := fun l => by split <;> simp
          have := this (S.drop st)
          have := HM.out
          dsimp only
          omega)
      have HDR : Hid ((S.drop st = []) ↔ i ≤ st) := Lib.hid (by rw [List.drop_eq_nil_iff, HN.out])
      clear HR HSL HIX HW
      have HRI := Lib.hid (fun T (h : T.length ≤ 10000) y => r47_Instr T h y)
      generalize S.drop st = rest at *
      by_cases hse : st < i
      all_goals
        first
          | (have hseI : (st : Int) < (B.size : Int) := by rw [HZ.out]; omega)
          | (have hseI : ¬ (st : Int) < (B.size : Int) := by rw [HZ.out]; omega)
        have HPS : Hid (prsG riF O rest 0 [] = r) := Lib.hid (by
          have h := HRS.out
          split at h
          · rename_i e; rw [e]; exact h
          · exact h)
        go_wp2
        go_loopw [9, 10] (fun ov kv x => ∃ (k q : Nat) (ys : List Ins), k ≤ m ∧ q ≤ k ∧ kv = .int .i64 k ∧ ys.length = q ∧ x.ownsRow wr.heap.size 42 11 ov q (flat (insF ys) q 11) ∧ (∀ y ∈ ys, InR y) ∧ prsG riF (O.drop k) rest k ys = r ∧ Up wr x) (fun _ kv _ => m - (intOf kv).toNat)
        case atStart => exact ⟨0, 0, [], by omega, by omega, rfl, rfl, World.ownsRow_nil _ _ _ _, (fun x h => by cases h), by rw [List.drop_zero]; exact HPS.out, Up.refl _⟩
        case round =>
          rename World => x
          obtain ⟨k, q, ys, hk, hqk, rfl, hq, hown, hys, hf, hU⟩ := hrel
          obtain ⟨va, vc, rfl⟩ := own_slice hown
          have HOX := Lib.hid hown
          have HYS := Lib.hid hys
          have HUX := Lib.hid hU
          have HQL := Lib.hid hq
          have HFK := Lib.hid hf
          have HUW0 := Lib.hid (HU.out.trans hU)
          clear hown hys hU hq hf
          by_cases hlt : k < m
          · have hltI : (k : Int) < (m : Int) := by omega
            obtain ⟨t, ht⟩ : ∃ t, O.getD k [] = t := ⟨_, rfl⟩
            obtain ⟨g3, o3, hx3, hl3, hc3⟩ := StrsAt.get HST.out rfl k hlt
            subst hx3
            replace hc3 := cell_up HUX.out hc3
            rw [map_getD_bst, ht] at hc3
            have hg3 : g3 < x.heap.size := Nat.lt_of_lt_of_le hl3 HUX.out.size
            have hTL : t.length ≤ 10000 := by
              rw [← ht, List.getD_eq_getElem?_getD, List.getElem?_eq_getElem (by rw [HM.out]; exact hlt)]
              exact HLEN.out _ (List.getElem_mem _)
            have HF2 : Hid ((if (riF t).2 = true then prsG riF (O.drop (k + 1)) rest ((k : Int) + 1) (ys ++ [(riF t).1]) else ([], (k : Int), 5)) = r) := Lib.hid (by
              have h := HFK.out
              rw [drop_getD HM.out hlt, ht] at h
              exact h)
            have HRL := Lib.hid (fun y => HRI.out t hTL y)
            have HXR := Lib.hid (fun h => riF_R (l := t) h)
            obtain ⟨⟨⟨op, A, b, c, ⟨n1, d⟩, kd, bi, fr, ro, ov⟩, ok⟩, hX⟩ : ∃ q, riF t = q := ⟨_, rfl⟩
            rw [hX] at HRL HXR HF2
            clear hX HFK hl3 ht hTL
            have HRL : Hid (∀ y, Calls Tryz.prog 40 #[.string (bst t)] y fun e w' => e = .returned (.tuple #[.agg #[.int .i64 op, .int .i64 A, .int .i64 b, .int .i64 c, .int .i64 n1, .int .i64 d, .int .i64 kd, .int .i64 bi, .int .i64 fr, .int .i64 ro, .int .i64 ov], .bool ok]) ∧ Up y w') := HRL
            generalize bst t = TB at *
            cases ok
            · have HE : Hid (r = ([], (k : Int), 5)) := Lib.hid (by rw [← HF2.out, if_neg (by simp)])
              go_wp2_with (go_at_call 40; refine (HRL.out _).mono ?_; rintro e y ⟨rfl, hy⟩; have HY := Lib.hid (HUW0.out.trans hy); clear hy)
              refine bodyPost_ret (v := .tuple #[.slice none 0 0, .int .i64 k, .int .i64 5]) (by simp [results, Tryz.results17, go_sem]) rfl ?_
              exact ⟨_, by rw [HE.out], HY.out.alloc _, by rw [HE.out]; exact InsAt.nil _⟩
            · have HN2 : Hid (prsG riF (O.drop (k + 1)) rest ((k : Int) + 1) (ys ++ [((op, A, b, c, (n1, d), kd, bi, fr, ro, ov) : Ins)]) = r) := Lib.hid (by rw [← HF2.out, if_pos rfl])
              replace HXR := Lib.hid (HXR.out rfl)
              clear HF2
              go_wp2_with (first
                | (go_at_call 40; refine (HRL.out _).mono ?_; rintro e y ⟨rfl, hy⟩; have HY := Lib.hid (HUX.out.trans hy); have HUW : Hid (Up y ((y.alloc (.cells #[.int .i64 op, .int .i64 A, .int .i64 b, .int .i64 c, .int .i64 n1, .int .i64 d, .int .i64 kd, .int .i64 bi, .int .i64 fr, .int .i64 ro, .int .i64 ov] 42)).alloc (.cells #[.int .i64 op, .int .i64 A, .int .i64 b, .int .i64 c, .int .i64 n1, .int .i64 d, .int .i64 kd, .int .i64 bi, .int .i64 fr, .int .i64 ro, .int .i64 ov] 42))) := Lib.hid (((Up.refl y).alloc (.cells #[.int .i64 op, .int .i64 A, .int .i64 b, .int .i64 c, .int .i64 n1, .int .i64 d, .int .i64 kd, .int .i64 bi, .int .i64 fr, .int .i64 ro, .int .i64 ov] 42)).alloc _); have HSL : Hid (SlAt ((y.alloc (.cells #[.int .i64 op, .int .i64 A, .int .i64 b, .int .i64 c, .int .i64 n1, .int .i64 d, .int .i64 kd, .int .i64 bi, .int .i64 fr, .int .i64 ro, .int .i64 ov] 42)).alloc (.cells #[.int .i64 op, .int .i64 A, .int .i64 b, .int .i64 c, .int .i64 n1, .int .i64 d, .int .i64 kd, .int .i64 bi, .int .i64 fr, .int .i64 ro, .int .i64 ov] 42)) (.slice (some ⟨y.heap.size + 1, 0, none⟩) 1 1) 1 11 (insF [((op, A, b, c, (n1, d), kd, bi, fr, ro, ov) : Ins)])) := Lib.hid (ins_one (y.alloc (.cells #[.int .i64 op, .int .i64 A, .int .i64 b, .int .i64 c, .int .i64 n1, .int .i64 d, .int .i64 kd, .int .i64 bi, .int .i64 fr, .int .i64 ro, .int .i64 ov] 42)) 42 ((op, A, b, c, (n1, d), kd, bi, fr, ro, ov) : Ins) (by simp)); have HOY := Lib.hid (own_up' HOX.out hy); clear hy)
                | (at_builtin; refine wpList_append_sl _ rfl _ _ 22 rfl wr.heap.size 42 j1 _ 11 88 Tryz.underlying22 gi0 gz0 gz1 gz2 rfl (by decide) (.slice va q vc) q _ rfl (own_up' HOY.out HUW.out) (.slice (some ⟨y.heap.size + 1, 0, none⟩) 1 1) 1 _ rfl HSL.out (fun i j _ _ => rfl) (by unfold maxLen; omega) (by omega) (by have := HY.out.size; simp; omega) ?_; intro v2 w1 hown1 hg1 hat1 hnil1; obtain ⟨vb, vd, rfl⟩ := own_slice hown1; have HO1 := Lib.hid hown1; have HG1 := Lib.hid hg1; clear hown1 hg1 hat1 hnil1))
              have HUN := Lib.hid ((HY.out.trans HUW.out).grown HG1.out fun g hg => own_base HOX.out g hg)
              have HON : Hid (w1.ownsRow wr.heap.size 42 11 (.slice vb (q + 1) vd) (q + 1) (flat (insF (ys ++ [((op, A, b, c, (n1, d), kd, bi, fr, ro, ov) : Ins)])) (q + 1) 11)) := Lib.hid (by have := HO1.out; rw [← HQL.out, ins_snoc, HQL.out] at this; exact this)
              clear HO1 HG1
              try go_roundw
              case rel => exact ⟨k + 1, q + 1, ys ++ [((op, A, b, c, (n1, d), kd, bi, fr, ro, ov) : Ins)], by omega, by omega, by go_num, by rw [List.length_append, HQL.out]; rfl, HON.out, (fun x h => (List.mem_append.1 h).elim (HYS.out x) fun h => by rw [List.mem_singleton.1 h]; exact HXR.out), HN2.out, HUN.out⟩
              case measure => simp [intOf]; omega
          · obtain rfl : k = m := by omega
            have HEQ : Hid ((if rest = [] then (ys, (0 : Int), (0 : Int)) else ([], (k : Int), 6)) = r) := Lib.hid (by
              have h := HFK.out
              rw [List.drop_eq_nil_of_le (by rw [HM.out]; exact Nat.le_refl _)] at h
              exact h)
            first
              | (have HE : Hid (r = ([], (k : Int), 6)) := Lib.hid (by rw [← HEQ.out, if_neg (by rw [HDR.out]; omega)])
                 clear hse h1 hi hsi hmI hnI hq1 hq2 hS
                 go_wp2
                 refine bodyPost_ret (v := .tuple #[.slice none 0 0, .int .i64 k, .int .i64 6]) (by simp [results, Tryz.results17, go_sem]) rfl ?_
                 exact ⟨_, by rw [HE.out], HUW0.out, by rw [HE.out]; exact InsAt.nil _⟩)
              | (have HE : Hid (r = (ys, 0, 0)) := Lib.hid (by rw [← HEQ.out, if_pos (by rw [HDR.out]; omega)])
                 have HQB : Hid (q ≤ 9223372036854775807) := Lib.hid (by omega)
                 clear hse h1 hi hsi hmI hnI hq1 hq2 hS
                 go_wp2
                 refine bodyPost_ret (v := .tuple #[.slice va q vc, .int .i64 0, .int .i64 0]) (by simp [results, Tryz.results17, go_sem]) rfl ?_
                 exact ⟨_, by rw [HE.out], HUW0.out, by rw [HE.out]; exact InsAt.of_own HOX.out HQL.out HQB.out HYS.out⟩)
end Go.Proofs.YtlglfdhiopnglaaGreatDoor
