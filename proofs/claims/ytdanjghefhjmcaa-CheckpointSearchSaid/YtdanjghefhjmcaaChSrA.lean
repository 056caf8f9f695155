/-
  The exhaustive search of the reference: add.
-/
import Derived.Test.YtdanjghefhjmcaaChSrM
namespace Go.Proofs.Ytdanjghefhjmcaa
open Go.ChangeShapes Go.WideShapes Go.ChangeAt Go.RowKit
set_option linter.unusedVariables false

theorem state_info : (Try.prog.info? 46).map (fun i => (i.zero, i.size, i.bytes)) = some (some (.agg #[.int .i64 0, .int .i64 0, .slice none 0 0]), 3, 40) := by kernel_rfl
def one3 (a b : Int) (v : Value) (_i j : Nat) : Value := match j with
  | 0 => .int .i64 a
  | 1 => .int .i64 b
  | _ => v
theorem state_sl (w : World) (a b : Int) (v : Value) (t : TypeId) : SlAt (w.alloc (.cells #[.int .i64 a, .int .i64 b, v] t)) (.slice (some ⟨w.heap.size, 0, none⟩) 1 1) 1 3 (one3 a b v) :=
  ⟨⟨some ⟨w.heap.size, 0, none⟩, 1, rfl, (fun e => nomatch e), fun x hx _ => by
    cases hx
    refine ⟨rfl, by simp, fun i j hi hj => ?_⟩
    obtain rfl : i = 0 := by omega
    rw [cell_of_row _ _ _ _ _ _ (heap_alloc_new w _)]
    rcases (by omega : j = 0 ∨ j = 1 ∨ j = 2) with rfl | rfl | rfl <;> rfl⟩, by decide⟩
theorem state_flat (a b : Int) (v : Value) : flat (one3 a b v) 1 3 = [.int .i64 a, .int .i64 b, v] := rfl
def AddPost (base k : Nat) (v : Value) (pl : List (LSt × Value)) (l' : List LSt) (w : World) (e : Ending) (w' : World) : Prop := ∃ v' pl', e = .returned v' ∧ LsOwn w' base k v' pl' ∧ pl'.map (·.1) = l' ∧ w.grownBy w' v.ownBlock ∧ (v'.ownBlock = v.ownBlock ∨ ∀ g, v'.ownBlock = some g → w.heap.size ≤ g)

set_option maxHeartbeats 8000000 in
theorem r28_add (base k : Nat) (v : Value) (pl : List (LSt × Value)) (s : LSt) (sv : Value) (w : World) (hL : LsOwn w base k v pl) (hs : SvOk w k v.ownBlock sv s) (hlen : ∀ p ∈ pl, p.1.2.2.length = k) (hsl : s.2.2.length = k) (hb : base ≤ w.heap.size) (hn : pl.length ≤ 10000000) :
    Calls Try.prog 29 #[v, .agg #[.int .i64 s.1, .int .i64 s.2.1, sv]] w fun e w' => AddPost base k v pl (addL (pl.map (·.1)) s) w e w' := by
  obtain ⟨i0, hi0, hz0, hz1, hz2⟩ := info_parts state_info
  obtain ⟨va, vc, rfl⟩ := own_slice hL.own
  obtain ⟨n, hnn⟩ : ∃ n, pl.length = n := ⟨_, rfl⟩
  have HL := Lib.hid hL
  have HS := Lib.hid hs
  have HLEN := Lib.hid hlen
  have HSL := Lib.hid hsl
  have HN := Lib.hid hnn
  obtain ⟨sva, svc, rfl⟩ := hs.slice
  rw [hnn] at HL HS hn ⊢
  have hnI : (n : Int) ≤ 10000000 := by omega
  clear hL hs hlen hsl hnn
  obtain ⟨a, b, sl⟩ := s
  dsimp only at HSL ⊢
  obtain ⟨R, hR⟩ : ∃ R, addL (pl.map (·.1)) (a, b, sl) = R := ⟨_, rfl⟩
  rw [hR]
  have HR := Lib.hid hR
  obtain ⟨B, hB⟩ : ∃ B, w.heap.size = B := ⟨_, rfl⟩
  obtain ⟨W1, hW1⟩ : ∃ W, w.alloc (.cells #[.int .i64 a, .int .i64 b, .slice sva k svc] 46) = W := ⟨_, rfl⟩
  have hU1 : Up w W1 := by rw [← hW1]; exact (Up.refl w).alloc _
  have hsz : W1.heap.size = B + 1 := by rw [← hW1, size_alloc, hB]
  have k1 : W1.heap[B]? = some (.cells #[.int .i64 a, .int .i64 b, .slice sva k svc] 46 (0, 0)) := by
    rw [← hW1, ← hB]; exact heap_alloc_new w _
  have K1 := Lib.hid k1
  have HB := Lib.hid hB
  have HW := Lib.hid hW1
  have HU1 := Lib.hid hU1
  clear hB hW1 hU1 k1 hR
  go_enter Try.func29, Try.ntmps29
  go_wp2
  rw [HW.out, HB.out]
  go_loopw [5] (fun i wr => ∃ j : Nat, j ≤ n ∧ i = .int .i64 j ∧ (¬ (a, b, sl) ∈ (pl.map (·.1)).take j) ∧ Up W1 wr) (fun i _ => n - (intOf i).toNat)
  case atStart => exact ⟨0, by omega, rfl, by simp, Up.refl _⟩
  case round =>
    rename World => wr
    obtain ⟨j, hj, rfl, hP, hU⟩ := hrel
    have HP := Lib.hid hP
    have hUw := HU1.out.trans hU
    have c0 : wr.cell? ⟨B, 0, none⟩ = some (.int .i64 a) := (hU.cell _ _ (by omega)).trans (cell_of_row _ _ _ _ _ _ K1.out)
    have c1 : wr.cell? ⟨B, 1, none⟩ = some (.int .i64 b) := (hU.cell _ _ (by omega)).trans (cell_of_row _ _ _ _ _ _ K1.out)
    have c2 : wr.cell? ⟨B, 2, none⟩ = some (.slice sva k svc) := (hU.cell _ _ (by omega)).trans (cell_of_row _ _ _ _ _ _ K1.out)
    have q1 : B < wr.heap.size := by have := hU.size; omega
    clear hP
    by_cases hlt : j < n
    · have hlt2 : (j : Int) < (n : Int) := by omega
      have hj0 : (0 : Int) ≤ (j : Int) := by omega
      obtain ⟨g, cap, ⟨pa, pb, ps⟩, pv, hv, _, hgl, hpj, hpm, d0, d1, d2, hok⟩ := (HL.out.up hUw).elem (i := j) (by rw [HN.out]; exact hlt)
      rw [HN.out] at hv
      simp only [Value.slice.injEq] at hv
      obtain ⟨rfl, _, rfl⟩ := hv
      dsimp only at d0 d1
      have hpl : ps.length = k := HLEN.out _ (List.mem_of_getElem? hpj)
      have htk : (pl.map (·.1)).take (j + 1) = (pl.map (·.1)).take j ++ [(pa, pb, ps)] := by
        rw [List.take_add_one, List.getElem?_map, hpj]; rfl
      obtain ⟨q, hq⟩ : ∃ q, decide (((pa, pb, ps) : LSt) = (a, b, sl)) = q := ⟨_, rfl⟩
      have HSM : Hid (∀ W, Up wr W → Calls Try.prog 33 #[.agg #[.int .i64 pa, .int .i64 pb, pv], .agg #[.int .i64 a, .int .i64 b, .slice sva k svc]] W fun e w' => e = .returned (.bool q) ∧ Up W w') := Lib.hid fun W h => by
        have := r28_same k (pa, pb, ps) (a, b, sl) hpl HSL.out pv (.slice sva k svc) W (hok.1.up h) ((HS.out.1.up hUw).up h)
        rw [hq] at this; exact this
      have HQ := Lib.hid hq
      have HTK := Lib.hid htk
      have HPJ := Lib.hid hpj
      have HUR := Lib.hid hU
      have HUW := Lib.hid hUw
      clear hpl htk hpj hpm hok hq hU hUw
      go_wp2_with fail
      refine wp_region_ext (by kernel_rfl) (by kernel_rfl) ?_
      repeat (go_big_quiet_step ((go_at_call 33; exact Calls.ext_of (HSM.out _ (Ext.up _)))))
      refine wpQuiet_nil ?_
      intro x5 hx5
      cases q
      · have HP2 : Hid (¬ (a, b, sl) ∈ (pl.map (·.1)).take (j + 1)) := Lib.hid (by
          rw [HTK.out]
          intro h
          rcases List.mem_append.1 h with h | h
          · exact HP.out h
          · have := of_decide_eq_false HQ.out
            exact this (List.mem_singleton.1 h).symm)
        go_wp2
        go_roundw
        case rel => exact ⟨j + 1, by omega, by go_num, HP2.out, HUR.out.trans hx5⟩
        case measure => simp [intOf]; omega
      · have hin : (a, b, sl) ∈ pl.map (·.1) := by
          have e := of_decide_eq_true HQ.out
          rw [← e]
          exact List.mem_map.2 ⟨_, List.mem_of_getElem? HPJ.out, rfl⟩
        have HRE : Hid (pl.map (·.1) = R) := Lib.hid (by rw [← HR.out]; unfold addL; rw [if_pos hin])
        clear hin
        go_wp2
        go_ret
        refine ⟨_, pl, rfl, ?_, HRE.out, Up.grb (HUW.out.trans hx5) _, Or.inl rfl⟩
        have := HL.out.up (HUW.out.trans hx5)
        exact this
    · have hlt2 : (n : Int) ≤ (j : Int) := by omega
      have hnot : ¬ (a, b, sl) ∈ pl.map (·.1) := by
        have := HP.out
        rw [List.take_of_length_le (by rw [List.length_map, HN.out]; omega)] at this
        exact this
      have HRE : Hid (pl.map (·.1) ++ [(a, b, sl)] = R) := Lib.hid (by rw [← HR.out]; unfold addL; rw [if_neg hnot])
      have HO : Hid (wr.ownsRow base 46 3 (.slice va n vc) n (stCells pl)) := Lib.hid (by
        have h := (HL.out.up hUw).own
        rw [HN.out] at h; exact h)
      have HUW := Lib.hid hUw
      have HSTS := Lib.hid (state_sl wr a b (.slice sva k svc) 46)
      have hbw : base ≤ wr.heap.size := by have := hUw.size; omega
      clear hnot hU hUw HP
      go_wp2_with (at_builtin; refine wpList_append_sl _ rfl (.tmp 19) (.tmp 21) 43 rfl base 46 i0 _ 3 40 Try.underlying43 hi0 hz0 hz1 hz2 rfl (by decide) (.slice va n vc) n _ rfl (HO.out.alloc _) (.slice (some ⟨wr.heap.size, 0, none⟩) 1 1) 1 _ rfl HSTS.out (fun i j hi hj => by rcases (by omega : j = 0 ∨ j = 1 ∨ j = 2) with rfl | rfl | rfl <;> rfl) (by unfold maxLen; omega) (by omega) (by rw [size_alloc]; omega) ?_; intro v1 w1 hown1 hg1 hat1 hnil1; have HO1 := Lib.hid hown1; have HG1 := Lib.hid hg1; have HAT := Lib.hid hat1; clear hown1 hg1 hat1 hnil1)
      go_ret
      have hgw : w.grownBy w1 (Value.slice va n vc).ownBlock := grb_trans (Up.grb (HUW.out.alloc (.cells #[.int .i64 a, .int .i64 b, .slice sva k svc] 46)) _) HG1.out (Or.inl rfl)
      have hrow : v1.ownBlock = (Value.slice va n vc).ownBlock ∨ ∀ g, v1.ownBlock = some g → w.heap.size ≤ g := by
        rcases HAT.out with h | h
        · exact Or.inl h
        · refine Or.inr fun g hg => ?_
          rw [h] at hg
          cases hg
          rw [size_alloc]
          have := HUW.out.size; omega
      refine ⟨v1, pl ++ [((a, b, sl), .slice sva k svc)], rfl, ⟨?_, fun p hp => ?_⟩, by rw [← HRE.out]; simp, hgw, hrow⟩
      · rw [List.length_append, HN.out, stCells_snoc]
        have h := HO1.out
        rw [state_flat] at h
        exact h
      · rcases List.mem_append.1 hp with hp | hp
        · exact (HL.out.sv p hp).grb hgw hrow
        · rw [List.mem_singleton.1 hp]
          exact HS.out.grb hgw hrow
end Go.Proofs.Ytdanjghefhjmcaa
