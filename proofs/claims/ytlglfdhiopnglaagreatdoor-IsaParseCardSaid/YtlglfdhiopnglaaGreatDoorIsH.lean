/-
  isa as text: Parse. Printed by mkIsH.py.
-/
import Derived.Test.YtlglfdhiopnglaaGreatDoorIsG
import Derived.Test.YtlglfdhiopnglaaGreatDoorGg
import Derived.Test.YtlglfdhiopnglaaGreatDoorGa
namespace Go.Proofs.YtlglfdhiopnglaaGreatDoor
open Go.ChangeShapes Go.WideShapes Go.ChangeAt Go.RowKit
set_option linter.unusedVariables false
set_option linter.unusedSimpArgs false
set_option maxRecDepth 100000

/-- A list of strings but its last. -/
theorem StrsAt.init {w : World} {a : Option Addr} {n c : Nat} {l : List ByteArray} (h : StrsAt w (.slice a n c) l) (hn : l.length = n) : StrsAt w (.slice a (n - 1) c) l.dropLast := by
  obtain ⟨⟨a', c', hv, h0, hx⟩, hmx⟩ := h
  simp only [Value.slice.injEq] at hv
  obtain ⟨rfl, -, rfl⟩ := hv
  unfold StrsAt
  have hl : l.dropLast.length = n - 1 := by rw [List.length_dropLast, hn]
  rw [hl]
  refine ⟨⟨_, _, rfl, fun e => by have := h0 e; omega, fun x hx' hp => ?_⟩, by omega⟩
  obtain ⟨g1, g2, g3⟩ := hx x hx' (by omega)
  refine ⟨g1, g2, fun i j hi hj => ?_⟩
  rw [g3 i j (by omega) hj]
  unfold strF
  rw [List.getD_eq_getElem?_getD, List.getD_eq_getElem?_getD, List.getElem?_dropLast, if_pos (by omega)]
theorem drop_strs {l : List ByteArray} {k n : Nat} (hn : l.length = n) (hk : k < n) : (l.map (·.toList)).drop k = (l.getD k ⟨#[]⟩).toList :: (l.map (·.toList)).drop (k + 1) := by
  have hk' : k < (l.map (·.toList)).length := by rw [List.length_map, hn]; exact hk
  rw [List.drop_eq_getElem_cons hk']
  congr 1
  rw [List.getElem_map, List.getD_eq_getElem?_getD, List.getElem?_eq_getElem (by omega)]; rfl
theorem rdL_bst (l : List UInt8) : rdL l = rdLine (bst l) := rfl

set_option maxHeartbeats 16000000 in
theorem isa_Parse (s : ByteArray) (hs : s.size ≤ 1000000) (w : World) (hR : RdW w) (hF : FTab w) (hI : ITab w) (hW : WTab w) :
    Calls Tryz.prog 16 #[.string s] w fun e w' => ∃ v, e = .returned (.tuple #[v, .int .i64 (parseP s).2.1, .int .i64 (parseP s).2.2]) ∧ Up w w' ∧ InsAt w' v (parseP s).1 := by
  obtain ⟨j0, hi0, hz0, hz1, hz2⟩ := info_parts ins_info
  obtain ⟨r, hr⟩ : ∃ r, parseP s = r := ⟨_, rfl⟩
  rw [hr]
  unfold parseP pcs at hr
  have hnl := spa_len s
  have hws : ∀ t ∈ spa s, t.size ≤ 1000000 := splitB_size _ _ _ _ _ hs
  have hnle : (spa s).length ≤ 1000001 := by
    have := Lib.countB_le ⟨#[10]⟩ (by decide) s.size s (Nat.le_refl _)
    omega
  have HSP := Lib.hid (s_SplitAfter s hs w hR)
  generalize spa s = ps at *
  obtain ⟨n, hn⟩ : ∃ n, ps.length = n := ⟨_, rfl⟩
  have hpos : 0 < n := by omega
  have hposI : (0 : Int) < n := by omega
  have hposI1 : (1 : Int) ≤ n := by omega
  rw [hn] at HSP hr hnle
  clear hnl
  have hnleI : (n : Int) ≤ 1000001 := by omega
  have HN := Lib.hid hn
  have HWS := Lib.hid hws
  have HRR := Lib.hid hR
  have HFT := Lib.hid hF
  have HIT := Lib.hid hI
  have HWT := Lib.hid hW
  have HR := Lib.hid hr
  obtain ⟨t0, ht0⟩ : ∃ t, ps.getD (n - 1) ⟨#[]⟩ = t := ⟨_, rfl⟩
  have HT0 := Lib.hid ht0
  clear hr hn hws hR hF hI hW hs ht0
  have hsub : IntKind.i64.wrap ((n : Int) - 1) = (n : Int) - 1 := by
    rw [IntWalk.i64_in _ (by omega)]
  have hnat : ((n : Int) - 1).toNat = n - 1 := by omega
  go_enter Tryz.func16, Tryz.ntmps16
  go_upto_region 3 with (go_at_call 37; refine HSP.out.mono ?_; rintro e z ⟨a, rfl, hx, hst⟩; have HUZ := Lib.hid hx; have HST := Lib.hid hst; clear hx hst)
  obtain ⟨B, hB⟩ : ∃ B, z.heap.size = B := ⟨_, rfl⟩
  have HB := Lib.hid hB
  clear hB
  obtain ⟨g2, o2, rfl, hgl, hc0⟩ := HST.out.get rfl (n - 1) (by omega)
  rw [HT0.out] at hc0
  by_cases he : t0 = ⟨#[]⟩
  · have q0 : t0.toList.isEmpty = true := by rw [he, Lib.toList_data]; rfl
    obtain ⟨pl, hpl⟩ : ∃ q, ps.dropLast = q := ⟨_, rfl⟩
    have HPL : Hid (pl.length = (n - 1)) := Lib.hid (by rw [← hpl, List.length_dropLast, HN.out])
    have HPS : Hid (StrsAt z (.slice (some ⟨g2, o2, none⟩) (n - 1) n) pl) := Lib.hid (by rw [← hpl]; exact HST.out.init HN.out)
    have HPW : Hid (∀ t ∈ pl, t.size ≤ 1000000) := Lib.hid (fun t ht => HWS.out t (by rw [← hpl] at ht; exact (List.dropLast_sublist ps).subset ht))
    have HRP : Hid ((if 65536 < (n - 1) then ([], 0, 2) else prsP rdL (pl.map (·.toList)) 0 []) = r) := Lib.hid (by
      have := HR.out
      rw [HT0.out, if_pos he, hpl, HPL.out] at this
      exact this)
    have HTE := Lib.hid he
    clear hpl he HST
    by_cases hbig : 65536 < (n - 1)
    · have hbigI : (65536 : Int) < ((n - 1) : Nat) := by omega
      have HE : Hid (r = ([], 0, 2)) := Lib.hid (by rw [← HRP.out, if_pos hbig])
      go_wp2
      refine bodyPost_ret (v := .tuple #[.slice none 0 0, .int .i64 0, .int .i64 2]) (by simp [results, Tryz.results16, go_sem, *]) rfl ?_
      exact ⟨_, by rw [HE.out], HUZ.out, by rw [HE.out]; exact InsAt.nil _⟩
    · have hbigI : ¬ (65536 : Int) < ((n - 1) : Nat) := by omega
      replace HRP := Lib.hid (by have := HRP.out; rwa [if_neg hbig] at this)
      go_wp2
      go_loopw [7, 32] (fun ov kv wr => ∃ (k m : Nat) (ys : List Ins), k ≤ (n - 1) ∧ m ≤ k ∧ kv = .int .i64 k ∧ ys.length = m ∧ wr.ownsRow B 42 11 ov m (flat (insF ys) m 11) ∧ (∀ x ∈ ys, InR x) ∧ prsP rdL ((pl.map (·.toList)).drop k) k ys = r ∧ Up z wr) (fun _ kv _ => (n - 1) - (intOf kv).toNat)
      case atStart => exact ⟨0, 0, [], by omega, by omega, rfl, rfl, World.ownsRow_nil _ _ _ _, (fun x h => by cases h), by rw [List.drop_zero]; exact HRP.out, Up.refl _⟩
      case round =>
        rename World => wr
        obtain ⟨k, m, ys, hk, hmk, rfl, hm, hown, hys, hf, hU⟩ := hrel
        obtain ⟨va, vc, rfl⟩ := own_slice hown
        have HOWN := Lib.hid hown
        have HYS := Lib.hid hys
        have HU := Lib.hid hU
        have HM := Lib.hid hm
        have HUW0 := Lib.hid (HUZ.out.trans hU)
        clear hown hys hU hm HRP
        by_cases hlt : k < (n - 1)
        · have hltI : (k : Int) < ((n - 1) : Nat) := by omega
          obtain ⟨t, ht⟩ : ∃ t, pl.getD k ⟨#[]⟩ = t := ⟨_, rfl⟩
          obtain ⟨g3, o3, hx3, hl3, hc3⟩ := HPS.out.get rfl k hlt
          cases hx3
          replace hc3 := cell_up HU.out hc3
          rw [ht] at hc3
          have hg2 : g2 < wr.heap.size := Nat.lt_of_lt_of_le hl3 HU.out.size
          have HSZ : Hid (t.size ≤ 1000000) := Lib.hid (ht ▸ getD_size HPW.out k)
          rw [drop_strs HPL.out hlt, ht] at hf
          obtain ⟨sf, hsf⟩ : ∃ b, Lib.hasSuffix t.toList [10] = b := ⟨_, rfl⟩
          obtain ⟨tx, htx⟩ : ∃ x, Lib.trimSuffix t.toList [10] = x := ⟨_, rfl⟩
          have HTX : Hid (tx.length ≤ 1000000) := Lib.hid (by
            have h1 := HSZ.out
            rw [Lib.size_eq, ← Lib.toList_data] at h1
            rw [← htx]
            unfold Lib.trimSuffix
            split
            · rw [List.length_take]; omega
            · exact h1)
          have HCS : Hid (∀ v, Calls Tryz.prog 38 #[.string t, .string ⟨#[10]⟩] v fun e w' => e = .returned (.tuple #[.string (bst tx), .bool sf]) ∧ w' = v) := Lib.hid (fun v => by
            have := Tryz.strings_CutSuffix t ⟨#[10]⟩ v (by have := HSZ.out; omega)
            rw [← Lib.toList_data t] at this
            rw [← htx, ← hsf]
            exact this)
          have HF : Hid ((if sf = false then (([], (k : Int), 6) : List Ins × Int × Int) else if (rdL tx).2 = true then prsP rdL ((pl.map (·.toList)).drop (k + 1)) ((k : Int) + 1) (ys ++ [(rdL tx).1]) else ([], (k : Int), 5)) = r) := Lib.hid (by
            unfold prsP at hf
            rw [hsf, htx] at hf
            exact hf)
          clear hf hsf htx ht hl3
          cases sf
          · have HE : Hid (r = ([], (k : Int), 6)) := Lib.hid (by rw [← HF.out, if_pos rfl])
            go_wp2_with (go_at_call 38; refine (HCS.out _).mono ?_; rintro e y ⟨rfl, rfl⟩)
            refine bodyPost_ret (v := .tuple #[.slice none 0 0, .int .i64 k, .int .i64 6]) (by simp [results, Tryz.results16, go_sem, *]) rfl ?_
            exact ⟨_, by rw [HE.out], HUW0.out, by rw [HE.out]; exact InsAt.nil _⟩
          · obtain ⟨⟨⟨op, A, b, c, ⟨n1, d⟩, kd, bi, fr, ro, ov⟩, ok⟩, hX⟩ : ∃ q, rdL tx = q := ⟨_, rfl⟩
            have HRL : Hid (∀ v, Up w v → Calls Tryz.prog 39 #[.string (bst tx)] v fun e w' => e = .returned (.tuple #[.agg #[.int .i64 op, .int .i64 A, .int .i64 b, .int .i64 c, .int .i64 n1, .int .i64 d, .int .i64 kd, .int .i64 bi, .int .i64 fr, .int .i64 ro, .int .i64 ov], .bool ok]) ∧ Up v w') := Lib.hid (fun v hv => by
              have := isa_readLine (bst tx) (by rw [Lib.size_eq]; exact HTX.out) v (HRR.out.up hv) (HFT.out.up hv) (HIT.out.up hv) (HWT.out.up hv)
              rw [← rdL_bst, hX] at this
              exact this)
            have HXR : Hid (InR ((op, A, b, c, (n1, d), kd, bi, fr, ro, ov) : Ins)) := Lib.hid (by
              have := rdLine_R (bst tx)
              rw [← rdL_bst, hX] at this
              exact this)
            have HG : Hid ((if ok = true then prsP rdL ((pl.map (·.toList)).drop (k + 1)) ((k : Int) + 1) (ys ++ [((op, A, b, c, (n1, d), kd, bi, fr, ro, ov) : Ins)]) else ([], (k : Int), 5)) = r) := Lib.hid (by
              have := HF.out
              rw [if_neg (by simp), hX] at this
              exact this)
            clear hX HF
            cases ok
            · have HE : Hid (r = ([], (k : Int), 5)) := Lib.hid (by rw [← HG.out, if_neg (by simp)])
              go_wp2_with (first
                | (go_at_call 38; refine (HCS.out _).mono ?_; rintro e y ⟨rfl, rfl⟩)
                | (go_at_call 39; refine (HRL.out _ HUW0.out).mono ?_; rintro e y ⟨rfl, hy⟩; have HY := Lib.hid (HUW0.out.trans hy); clear hy))
              refine bodyPost_ret (v := .tuple #[.slice none 0 0, .int .i64 k, .int .i64 5]) (by simp [results, Tryz.results16, go_sem, *]) rfl ?_
              exact ⟨_, by rw [HE.out], HY.out.alloc _, by rw [HE.out]; exact InsAt.nil _⟩
            · have HN2 : Hid (prsP rdL ((pl.map (·.toList)).drop (k + 1)) ((k : Int) + 1) (ys ++ [((op, A, b, c, (n1, d), kd, bi, fr, ro, ov) : Ins)]) = r) := Lib.hid (by rw [← HG.out, if_pos rfl])
              clear HG
              go_wp2_with (first
                | (go_at_call 38; refine (HCS.out _).mono ?_; rintro e y ⟨rfl, rfl⟩)
                | (go_at_call 39; refine (HRL.out _ HUW0.out).mono ?_; rintro e y ⟨rfl, hy⟩; have HY := Lib.hid (HU.out.trans hy); have HUW : Hid (Up y ((y.alloc (.cells #[.int .i64 op, .int .i64 A, .int .i64 b, .int .i64 c, .int .i64 n1, .int .i64 d, .int .i64 kd, .int .i64 bi, .int .i64 fr, .int .i64 ro, .int .i64 ov] 42)).alloc (.cells #[.int .i64 op, .int .i64 A, .int .i64 b, .int .i64 c, .int .i64 n1, .int .i64 d, .int .i64 kd, .int .i64 bi, .int .i64 fr, .int .i64 ro, .int .i64 ov] 42))) := Lib.hid (((Up.refl y).alloc (.cells #[.int .i64 op, .int .i64 A, .int .i64 b, .int .i64 c, .int .i64 n1, .int .i64 d, .int .i64 kd, .int .i64 bi, .int .i64 fr, .int .i64 ro, .int .i64 ov] 42)).alloc _); have HSL : Hid (SlAt ((y.alloc (.cells #[.int .i64 op, .int .i64 A, .int .i64 b, .int .i64 c, .int .i64 n1, .int .i64 d, .int .i64 kd, .int .i64 bi, .int .i64 fr, .int .i64 ro, .int .i64 ov] 42)).alloc (.cells #[.int .i64 op, .int .i64 A, .int .i64 b, .int .i64 c, .int .i64 n1, .int .i64 d, .int .i64 kd, .int .i64 bi, .int .i64 fr, .int .i64 ro, .int .i64 ov] 42)) (.slice (some ⟨y.heap.size + 1, 0, none⟩) 1 1) 1 11 (insF [((op, A, b, c, (n1, d), kd, bi, fr, ro, ov) : Ins)])) := Lib.hid (ins_one (y.alloc (.cells #[.int .i64 op, .int .i64 A, .int .i64 b, .int .i64 c, .int .i64 n1, .int .i64 d, .int .i64 kd, .int .i64 bi, .int .i64 fr, .int .i64 ro, .int .i64 ov] 42)) 42 ((op, A, b, c, (n1, d), kd, bi, fr, ro, ov) : Ins) (by simp)); have HOY := Lib.hid (own_up' HOWN.out hy); clear hy)
                | (at_builtin; refine wpList_append_sl _ rfl _ _ 22 rfl B 42 j0 _ 11 88 Tryz.underlying22 hi0 hz0 hz1 hz2 rfl (by decide) (.slice va m vc) m _ rfl (own_up' HOY.out HUW.out) (.slice (some ⟨y.heap.size + 1, 0, none⟩) 1 1) 1 _ rfl HSL.out (fun i j _ _ => rfl) (by unfold maxLen; omega) (by omega) (by have := HY.out.size; have := HB.out; simp; omega) ?_; intro v2 w1 hown1 hg1 hat1 hnil1; obtain ⟨vb, vd, rfl⟩ := own_slice hown1; have HO1 := Lib.hid hown1; have HG1 := Lib.hid hg1; clear hown1 hg1 hat1 hnil1))
              have HUN := Lib.hid ((HY.out.trans HUW.out).grown HG1.out fun g hg => by rw [HB.out]; exact own_base HOWN.out g hg)
              have HON : Hid (w1.ownsRow B 42 11 (.slice vb (m + 1) vd) (m + 1) (flat (insF (ys ++ [((op, A, b, c, (n1, d), kd, bi, fr, ro, ov) : Ins)])) (m + 1) 11)) := Lib.hid (by have := HO1.out; rw [← HM.out, ins_snoc, HM.out] at this; exact this)
              clear HO1 HG1
              try go_roundw
              case rel => exact ⟨k + 1, m + 1, ys ++ [((op, A, b, c, (n1, d), kd, bi, fr, ro, ov) : Ins)], by omega, by omega, by go_num, by rw [List.length_append, HM.out]; rfl, HON.out, (fun x h => (List.mem_append.1 h).elim (HYS.out x) fun h => by rw [List.mem_singleton.1 h]; exact HXR.out), HN2.out, HUN.out⟩
              case measure => simp [intOf]; omega
        · obtain rfl : k = (n - 1) := by omega
          have HE : Hid (r = (ys, 0, 0)) := Lib.hid (by rw [← hf, List.drop_eq_nil_of_le (by rw [List.length_map, HPL.out]; omega)]; rfl)
          clear hf
          go_wp2
          refine bodyPost_ret (v := .tuple #[.slice va m vc, .int .i64 0, .int .i64 0]) (by simp [results, Tryz.results16, go_sem, *]) rfl ?_
          exact ⟨_, by rw [HE.out], HUW0.out, by rw [HE.out]; exact InsAt.of_own HOWN.out HM.out (by omega) HYS.out⟩
  · have q0 : t0.toList.isEmpty = false := by
      rw [Lib.toList_data]
      cases hq : t0.data.toList with
      | nil => exact absurd (ByteArray.ext (Array.toList_inj.1 hq)) he
      | cons a b => rfl
    obtain ⟨pl, hpl⟩ : ∃ q, ps = q := ⟨_, rfl⟩
    have HPL : Hid (pl.length = n) := Lib.hid (by rw [← hpl]; exact HN.out)
    have HPS : Hid (StrsAt z (.slice (some ⟨g2, o2, none⟩) n n) pl) := Lib.hid (by rw [← hpl]; exact HST.out)
    have HPW : Hid (∀ t ∈ pl, t.size ≤ 1000000) := Lib.hid (fun t ht => HWS.out t (by rw [← hpl] at ht; exact ht))
    have HRP : Hid ((if 65536 < n then ([], 0, 2) else prsP rdL (pl.map (·.toList)) 0 []) = r) := Lib.hid (by
      have := HR.out
      rw [HT0.out, if_neg he, hpl, HPL.out] at this
      exact this)
    have HTE := Lib.hid he
    clear hpl he HST
    by_cases hbig : 65536 < n
    · have hbigI : (65536 : Int) < (n : Nat) := by omega
      have HE : Hid (r = ([], 0, 2)) := Lib.hid (by rw [← HRP.out, if_pos hbig])
      go_wp2
      refine bodyPost_ret (v := .tuple #[.slice none 0 0, .int .i64 0, .int .i64 2]) (by simp [results, Tryz.results16, go_sem, *]) rfl ?_
      exact ⟨_, by rw [HE.out], HUZ.out, by rw [HE.out]; exact InsAt.nil _⟩
    · have hbigI : ¬ (65536 : Int) < (n : Nat) := by omega
      replace HRP := Lib.hid (by have := HRP.out; rwa [if_neg hbig] at this)
      go_wp2
      go_loopw [7, 32] (fun ov kv wr => ∃ (k m : Nat) (ys : List Ins), k ≤ n ∧ m ≤ k ∧ kv = .int .i64 k ∧ ys.length = m ∧ wr.ownsRow B 42 11 ov m (flat (insF ys) m 11) ∧ (∀ x ∈ ys, InR x) ∧ prsP rdL ((pl.map (·.toList)).drop k) k ys = r ∧ Up z wr) (fun _ kv _ => n - (intOf kv).toNat)
      case atStart => exact ⟨0, 0, [], by omega, by omega, rfl, rfl, World.ownsRow_nil _ _ _ _, (fun x h => by cases h), by rw [List.drop_zero]; exact HRP.out, Up.refl _⟩
      case round =>
        rename World => wr
        obtain ⟨k, m, ys, hk, hmk, rfl, hm, hown, hys, hf, hU⟩ := hrel
        obtain ⟨va, vc, rfl⟩ := own_slice hown
        have HOWN := Lib.hid hown
        have HYS := Lib.hid hys
        have HU := Lib.hid hU
        have HM := Lib.hid hm
        have HUW0 := Lib.hid (HUZ.out.trans hU)
        clear hown hys hU hm HRP
        by_cases hlt : k < n
        · have hltI : (k : Int) < (n : Nat) := by omega
          obtain ⟨t, ht⟩ : ∃ t, pl.getD k ⟨#[]⟩ = t := ⟨_, rfl⟩
          obtain ⟨g3, o3, hx3, hl3, hc3⟩ := HPS.out.get rfl k hlt
          cases hx3
          replace hc3 := cell_up HU.out hc3
          rw [ht] at hc3
          have hg2 : g2 < wr.heap.size := Nat.lt_of_lt_of_le hl3 HU.out.size
          have HSZ : Hid (t.size ≤ 1000000) := Lib.hid (ht ▸ getD_size HPW.out k)
          rw [drop_strs HPL.out hlt, ht] at hf
          obtain ⟨sf, hsf⟩ : ∃ b, Lib.hasSuffix t.toList [10] = b := ⟨_, rfl⟩
          obtain ⟨tx, htx⟩ : ∃ x, Lib.trimSuffix t.toList [10] = x := ⟨_, rfl⟩
          have HTX : Hid (tx.length ≤ 1000000) := Lib.hid (by
            have h1 := HSZ.out
            rw [Lib.size_eq, ← Lib.toList_data] at h1
            rw [← htx]
            unfold Lib.trimSuffix
            split
            · rw [List.length_take]; omega
            · exact h1)
          have HCS : Hid (∀ v, Calls Tryz.prog 38 #[.string t, .string ⟨#[10]⟩] v fun e w' => e = .returned (.tuple #[.string (bst tx), .bool sf]) ∧ w' = v) := Lib.hid (fun v => by
            have := Tryz.strings_CutSuffix t ⟨#[10]⟩ v (by have := HSZ.out; omega)
            rw [← Lib.toList_data t] at this
            rw [← htx, ← hsf]
            exact this)
          have HF : Hid ((if sf = false then (([], (k : Int), 6) : List Ins × Int × Int) else if (rdL tx).2 = true then prsP rdL ((pl.map (·.toList)).drop (k + 1)) ((k : Int) + 1) (ys ++ [(rdL tx).1]) else ([], (k : Int), 5)) = r) := Lib.hid (by
            unfold prsP at hf
            rw [hsf, htx] at hf
            exact hf)
          clear hf hsf htx ht hl3
          cases sf
          · have HE : Hid (r = ([], (k : Int), 6)) := Lib.hid (by rw [← HF.out, if_pos rfl])
            go_wp2_with (go_at_call 38; refine (HCS.out _).mono ?_; rintro e y ⟨rfl, rfl⟩)
            refine bodyPost_ret (v := .tuple #[.slice none 0 0, .int .i64 k, .int .i64 6]) (by simp [results, Tryz.results16, go_sem, *]) rfl ?_
            exact ⟨_, by rw [HE.out], HUW0.out, by rw [HE.out]; exact InsAt.nil _⟩
          · obtain ⟨⟨⟨op, A, b, c, ⟨n1, d⟩, kd, bi, fr, ro, ov⟩, ok⟩, hX⟩ : ∃ q, rdL tx = q := ⟨_, rfl⟩
            have HRL : Hid (∀ v, Up w v → Calls Tryz.prog 39 #[.string (bst tx)] v fun e w' => e = .returned (.tuple #[.agg #[.int .i64 op, .int .i64 A, .int .i64 b, .int .i64 c, .int .i64 n1, .int .i64 d, .int .i64 kd, .int .i64 bi, .int .i64 fr, .int .i64 ro, .int .i64 ov], .bool ok]) ∧ Up v w') := Lib.hid (fun v hv => by
              have := isa_readLine (bst tx) (by rw [Lib.size_eq]; exact HTX.out) v (HRR.out.up hv) (HFT.out.up hv) (HIT.out.up hv) (HWT.out.up hv)
              rw [← rdL_bst, hX] at this
              exact this)
            have HXR : Hid (InR ((op, A, b, c, (n1, d), kd, bi, fr, ro, ov) : Ins)) := Lib.hid (by
              have := rdLine_R (bst tx)
              rw [← rdL_bst, hX] at this
              exact this)
            have HG : Hid ((if ok = true then prsP rdL ((pl.map (·.toList)).drop (k + 1)) ((k : Int) + 1) (ys ++ [((op, A, b, c, (n1, d), kd, bi, fr, ro, ov) : Ins)]) else ([], (k : Int), 5)) = r) := Lib.hid (by
              have := HF.out
              rw [if_neg (by simp), hX] at this
              exact this)
            clear hX HF
            cases ok
            · have HE : Hid (r = ([], (k : Int), 5)) := Lib.hid (by rw [← HG.out, if_neg (by simp)])
              go_wp2_with (first
                | (go_at_call 38; refine (HCS.out _).mono ?_; rintro e y ⟨rfl, rfl⟩)
                | (go_at_call 39; refine (HRL.out _ HUW0.out).mono ?_; rintro e y ⟨rfl, hy⟩; have HY := Lib.hid (HUW0.out.trans hy); clear hy))
              refine bodyPost_ret (v := .tuple #[.slice none 0 0, .int .i64 k, .int .i64 5]) (by simp [results, Tryz.results16, go_sem, *]) rfl ?_
              exact ⟨_, by rw [HE.out], HY.out.alloc _, by rw [HE.out]; exact InsAt.nil _⟩
            · have HN2 : Hid (prsP rdL ((pl.map (·.toList)).drop (k + 1)) ((k : Int) + 1) (ys ++ [((op, A, b, c, (n1, d), kd, bi, fr, ro, ov) : Ins)]) = r) := Lib.hid (by rw [← HG.out, if_pos rfl])
              clear HG
              go_wp2_with (first
                | (go_at_call 38; refine (HCS.out _).mono ?_; rintro e y ⟨rfl, rfl⟩)
                | (go_at_call 39; refine (HRL.out _ HUW0.out).mono ?_; rintro e y ⟨rfl, hy⟩; have HY := Lib.hid (HU.out.trans hy); have HUW : Hid (Up y ((y.alloc (.cells #[.int .i64 op, .int .i64 A, .int .i64 b, .int .i64 c, .int .i64 n1, .int .i64 d, .int .i64 kd, .int .i64 bi, .int .i64 fr, .int .i64 ro, .int .i64 ov] 42)).alloc (.cells #[.int .i64 op, .int .i64 A, .int .i64 b, .int .i64 c, .int .i64 n1, .int .i64 d, .int .i64 kd, .int .i64 bi, .int .i64 fr, .int .i64 ro, .int .i64 ov] 42))) := Lib.hid (((Up.refl y).alloc (.cells #[.int .i64 op, .int .i64 A, .int .i64 b, .int .i64 c, .int .i64 n1, .int .i64 d, .int .i64 kd, .int .i64 bi, .int .i64 fr, .int .i64 ro, .int .i64 ov] 42)).alloc _); have HSL : Hid (SlAt ((y.alloc (.cells #[.int .i64 op, .int .i64 A, .int .i64 b, .int .i64 c, .int .i64 n1, .int .i64 d, .int .i64 kd, .int .i64 bi, .int .i64 fr, .int .i64 ro, .int .i64 ov] 42)).alloc (.cells #[.int .i64 op, .int .i64 A, .int .i64 b, .int .i64 c, .int .i64 n1, .int .i64 d, .int .i64 kd, .int .i64 bi, .int .i64 fr, .int .i64 ro, .int .i64 ov] 42)) (.slice (some ⟨y.heap.size + 1, 0, none⟩) 1 1) 1 11 (insF [((op, A, b, c, (n1, d), kd, bi, fr, ro, ov) : Ins)])) := Lib.hid (ins_one (y.alloc (.cells #[.int .i64 op, .int .i64 A, .int .i64 b, .int .i64 c, .int .i64 n1, .int .i64 d, .int .i64 kd, .int .i64 bi, .int .i64 fr, .int .i64 ro, .int .i64 ov] 42)) 42 ((op, A, b, c, (n1, d), kd, bi, fr, ro, ov) : Ins) (by simp)); have HOY := Lib.hid (own_up' HOWN.out hy); clear hy)
                | (at_builtin; refine wpList_append_sl _ rfl _ _ 22 rfl B 42 j0 _ 11 88 Tryz.underlying22 hi0 hz0 hz1 hz2 rfl (by decide) (.slice va m vc) m _ rfl (own_up' HOY.out HUW.out) (.slice (some ⟨y.heap.size + 1, 0, none⟩) 1 1) 1 _ rfl HSL.out (fun i j _ _ => rfl) (by unfold maxLen; omega) (by omega) (by have := HY.out.size; have := HB.out; simp; omega) ?_; intro v2 w1 hown1 hg1 hat1 hnil1; obtain ⟨vb, vd, rfl⟩ := own_slice hown1; have HO1 := Lib.hid hown1; have HG1 := Lib.hid hg1; clear hown1 hg1 hat1 hnil1))
              have HUN := Lib.hid ((HY.out.trans HUW.out).grown HG1.out fun g hg => by rw [HB.out]; exact own_base HOWN.out g hg)
              have HON : Hid (w1.ownsRow B 42 11 (.slice vb (m + 1) vd) (m + 1) (flat (insF (ys ++ [((op, A, b, c, (n1, d), kd, bi, fr, ro, ov) : Ins)])) (m + 1) 11)) := Lib.hid (by have := HO1.out; rw [← HM.out, ins_snoc, HM.out] at this; exact this)
              clear HO1 HG1
              try go_roundw
              case rel => exact ⟨k + 1, m + 1, ys ++ [((op, A, b, c, (n1, d), kd, bi, fr, ro, ov) : Ins)], by omega, by omega, by go_num, by rw [List.length_append, HM.out]; rfl, HON.out, (fun x h => (List.mem_append.1 h).elim (HYS.out x) fun h => by rw [List.mem_singleton.1 h]; exact HXR.out), HN2.out, HUN.out⟩
              case measure => simp [intOf]; omega
        · obtain rfl : k = n := by omega
          have HE : Hid (r = (ys, 0, 0)) := Lib.hid (by rw [← hf, List.drop_eq_nil_of_le (by rw [List.length_map, HPL.out]; omega)]; rfl)
          clear hf
          go_wp2
          refine bodyPost_ret (v := .tuple #[.slice va m vc, .int .i64 0, .int .i64 0]) (by simp [results, Tryz.results16, go_sem, *]) rfl ?_
          exact ⟨_, by rw [HE.out], HUW0.out, by rw [HE.out]; exact InsAt.of_own HOWN.out HM.out (by omega) HYS.out⟩
end Go.Proofs.YtlglfdhiopnglaaGreatDoor
