/-
  The exhaustive search of the reference: states in memory; Do and same.
-/
import Derived.Test.YtdanjghefhjmcaaChSrP
import Derived.Test.YtdanjghefhjmcaaChRefPlan
namespace Go.Proofs.Ytdanjghefhjmcaa
open Go.ChangeShapes Go.WideShapes Go.ChangeAt Go.RowKit
set_option linter.unusedVariables false

theorem sr_own_up {w w' : World} {base n k : Nat} {e : TypeId} {v : Value} {xs : List Value} (h : w.ownsRow base e k v n xs) (u : Up w w') : w'.ownsRow base e k v n xs := by
  refine ⟨h.1, ?_⟩
  rcases h.2 with hn | ⟨g, cap, cur, hv, hb, hg, hr⟩
  · exact .inl hn
  · exact .inr ⟨g, cap, cur, hv, hb, (u.heap g (Array.getElem?_eq_some_iff.1 hg).1).trans hg, hr⟩
theorem sr_own_max {w : World} {base n k : Nat} {e : TypeId} {v : Value} {xs : List Value} (h : w.ownsRow base e k v n xs) : n ≤ 9223372036854775807 := by
  rcases h.2 with ⟨_, rfl⟩ | ⟨g, cap, cur, _, _, _, hnc, hcm, _⟩
  · omega
  · have : maxLen = 9223372036854775807 := rfl
    omega
theorem Up.grb {w w' : World} (u : Up w w') (row : Option Nat) : w.grownBy w' row := ⟨Below.os u, Below.tape u, Below.output u, u.size, fun k hk _ => Below.block u k hk⟩
theorem grb_trans {w w1 w2 : World} {r r' : Option Nat} (h : w.grownBy w1 r) (g : w1.grownBy w2 r') (hr : r' = r ∨ ∀ k, r' = some k → w.heap.size ≤ k) : w.grownBy w2 r :=
  ⟨g.os.trans h.os, g.tape.trans h.tape, g.output.trans h.output, Nat.le_trans h.size g.size, fun k hk hne => (g.block k (Nat.lt_of_lt_of_le hk h.size) (by
    rcases hr with rfl | hr
    · exact hne
    · intro e; have := hr k e.symm; omega)).trans (h.block k hk hne)⟩

/-- How a state's slots read. -/
def rdL (s : LSt) (i _j : Nat) : Value := .int .i64 (s.2.2.getD i (-1))
/-- A state's slots, apart from the row that grows. -/
def SvOk (w : World) (k : Nat) (row : Option Nat) (sv : Value) (s : LSt) : Prop := SlAt w sv k 1 (rdL s) ∧ (0 < k → ∀ x n c, sv = .slice (some x) n c → some x.block ≠ row)
theorem SlAt.blk {w : World} {sv : Value} {len k : Nat} {f : Nat → Nat → Value} (h : SlAt w sv len k f) (hl : 0 < len) {x : Addr} {n c : Nat} (hv : sv = .slice (some x) n c) : x.block < w.heap.size := by
  obtain ⟨⟨a, cap, he, h0, hc⟩, _⟩ := h
  rw [he] at hv
  simp only [Value.slice.injEq] at hv
  exact (hc x hv.1 hl).2.1
theorem SlAt.grb {w w' : World} {row : Option Nat} {sv : Value} {len k : Nat} {f : Nat → Nat → Value} (h : SlAt w sv len k f) (hg : w.grownBy w' row) (hne : 0 < len → ∀ x n c, sv = .slice (some x) n c → some x.block ≠ row) : SlAt w' sv len k f := by
  obtain ⟨⟨a, cap, he, h0, hc⟩, hm⟩ := h
  refine ⟨⟨a, cap, he, h0, fun x hx hl => ?_⟩, hm⟩
  obtain ⟨g1, g2, g3⟩ := hc x hx hl
  refine ⟨g1, Nat.lt_of_lt_of_le g2 hg.size, fun i j hi hj => hg.cell (g3 i j hi hj) ?_⟩
  exact hne hl x len cap (by rw [he, hx])
theorem SvOk.grb {w w' : World} {k : Nat} {row row' : Option Nat} {sv : Value} {s : LSt} (h : SvOk w k row sv s) (hg : w.grownBy w' row) (hr : row' = row ∨ ∀ g, row' = some g → w.heap.size ≤ g) : SvOk w' k row' sv s := by
  refine ⟨h.1.grb hg h.2, fun hk x n c hv => ?_⟩
  rcases hr with rfl | hr
  · exact h.2 hk x n c hv
  · intro e
    have h1 := hr _ e.symm
    have h2 := h.1.blk hk hv
    omega
theorem SvOk.up {w w' : World} {k : Nat} {row : Option Nat} {sv : Value} {s : LSt} (h : SvOk w k row sv s) (u : Up w w') : SvOk w' k row sv s := ⟨h.1.up u, h.2⟩
theorem SvOk.slice {w : World} {k : Nat} {row : Option Nat} {sv : Value} {s : LSt} (h : SvOk w k row sv s) : ∃ a c, sv = .slice a k c := by
  obtain ⟨⟨⟨a, cap, he, _⟩, _⟩, _⟩ := h
  exact ⟨a, cap, he⟩

theorem toP_rd (s : LSt) (hs : ∀ j, -1 ≤ s.2.2.getD j (-1)) (i j : Nat) : rdS (toP s) i j = rdL s i j := by
  unfold rdS rdL toP
  dsimp only
  have := hs i
  by_cases h : 0 ≤ s.2.2.getD i (-1)
  · rw [if_pos (decide_eq_true h), if_pos h]
  · rw [if_neg (by simpa using h)]
    congr 1; omega
theorem ofP_rd (k : Nat) (p : PSt) (i j : Nat) (hi : i < k) : rdS p i j = rdL (ofP k p) i j := by
  unfold rdS rdL
  rw [ofP_get, if_pos hi]
theorem toP_ok {n k : Nat} (hn : n ≤ 5) {s : LSt} (h : Ok3 n k s) : StOk (toP s) := by
  refine ⟨h.ok.n0, ?_, h.ok.l0, ?_, fun i => ?_⟩
  · show s.1 ≤ 64; have := h.ok.n1; omega
  · show s.2.1 ≤ 64; have := h.ok.l1; omega
  · have := h.sl i
    show 0 ≤ (if 0 ≤ s.2.2.getD i (-1) then _ else _) ∧ (if 0 ≤ s.2.2.getD i (-1) then _ else _) ≤ _
    split <;> omega

def DoR (w : World) (k : Nat) (row : Option Nat) (sv0 : Value) (r : Bool × LSt) (e : Ending) (w' : World) : Prop := ∃ sv, e = .returned (.tuple #[.agg #[.int .i64 r.2.1, .int .i64 r.2.2.1, sv], .bool r.1]) ∧ SvOk w' k row sv r.2 ∧ Up w w' ∧ (sv = sv0 ∨ ∀ x n c, sv = .slice (some x) n c → w.heap.size ≤ x.block)
theorem r28_DoL (n k : Nat) (hn : n ≤ 5) (hk : k ≤ 2) (s : LSt) (hs : Ok3 n k s) (op at' sl : Int) (a0 : -9223372036854775808 ≤ at') (a1 : at' ≤ 9223372036854775807) (row : Option Nat) (sv : Value) (w : World) (hv : SvOk w k row sv s) (hrow : ∀ g, row = some g → g < w.heap.size) :
    Calls Try.prog 28 #[.agg #[.int .i64 s.1, .int .i64 s.2.1, sv], .int .i64 n, .agg #[.int .i64 op, .int .i64 at', .int .i64 sl]] w (DoR w k row sv (doL n k s op at' sl)) := by
  have h1 : SlAt w sv k 1 (rdS (toP s)) := hv.1.congr fun i j hi hj => (toP_rd s (fun j => (hs.ok.sl j).1) i j).symm
  refine (r28_Do (toP s) op at' sl n k sv w h1 (by omega) (toP_ok hn hs) a0 a1 (by omega)).mono ?_
  rintro e w' ⟨sv', he, hsl, hu, hfr⟩
  refine ⟨sv', he, ⟨hsl.congr fun i j hi hj => ofP_rd k _ i j hi, fun h0 x m c hx => ?_⟩, hu, hfr⟩
  rcases hfr with rfl | hfr
  · exact hv.2 h0 x m c hx
  · intro e2
    have h3 := hfr x m c hx
    have h4 := hrow _ e2.symm
    omega

/-- A list of states in a row of the call's own. -/
def stCells (pl : List (LSt × Value)) : List Value := pl.flatMap fun p => [.int .i64 p.1.1, .int .i64 p.1.2.1, p.2]
theorem stCells_snoc (pl : List (LSt × Value)) (p : LSt × Value) : stCells (pl ++ [p]) = stCells pl ++ [.int .i64 p.1.1, .int .i64 p.1.2.1, p.2] := by simp [stCells]
theorem stCells_get : ∀ (pl : List (LSt × Value)) (i : Nat) (p : LSt × Value), pl[i]? = some p → (stCells pl)[i * 3]? = some (.int .i64 p.1.1) ∧ (stCells pl)[i * 3 + 1]? = some (.int .i64 p.1.2.1) ∧ (stCells pl)[i * 3 + 2]? = some p.2
  | [], i, p, h => by simp at h
  | q :: r, 0, p, h => by simp at h; subst h; exact ⟨rfl, rfl, rfl⟩
  | q :: r, i + 1, p, h => by
    have h' : r[i]? = some p := h
    obtain ⟨h1, h2, h3⟩ := stCells_get r i p h'
    have e : stCells (q :: r) = [.int .i64 q.1.1, .int .i64 q.1.2.1, q.2] ++ stCells r := rfl
    rw [e]
    refine ⟨?_, ?_, ?_⟩
    · rw [List.getElem?_append_right (by simp; omega)]; rw [← h1]; congr 1; simp; omega
    · rw [List.getElem?_append_right (by simp; omega)]; rw [← h2]; congr 1; simp; omega
    · rw [List.getElem?_append_right (by simp; omega)]; rw [← h3]; congr 1; simp; omega
structure LsOwn (w : World) (base k : Nat) (v : Value) (pl : List (LSt × Value)) : Prop where
  own : w.ownsRow base 46 3 v pl.length (stCells pl)
  sv : ∀ p ∈ pl, SvOk w k v.ownBlock p.2 p.1
theorem LsOwn.up {w w' : World} {base k : Nat} {v : Value} {pl : List (LSt × Value)} (h : LsOwn w base k v pl) (u : Up w w') : LsOwn w' base k v pl := ⟨sr_own_up h.own u, fun p hp => (h.sv p hp).up u⟩
theorem LsOwn.elem {w : World} {base k : Nat} {v : Value} {pl : List (LSt × Value)} (h : LsOwn w base k v pl) {i : Nat} (hi : i < pl.length) :
    ∃ g cap s sv, v = .slice (some ⟨g, 0, none⟩) pl.length cap ∧ base ≤ g ∧ g < w.heap.size ∧ pl[i]? = some (s, sv) ∧ (pl.map (·.1)).getD i (0, 0, []) = s ∧ w.cell? ⟨g, i * 3, none⟩ = some (.int .i64 s.1) ∧ w.cell? ⟨g, i * 3 + 1, none⟩ = some (.int .i64 s.2.1) ∧ w.cell? ⟨g, i * 3 + 2, none⟩ = some sv ∧ SvOk w k (some g) sv s := by
  obtain ⟨g, cap, hv, hb, hlt, _, _, hc⟩ := own_get h.own (by omega)
  obtain ⟨⟨s, sv⟩, hp⟩ : ∃ p, pl[i]? = some p := ⟨_, List.getElem?_eq_getElem hi⟩
  obtain ⟨h1, h2, h3⟩ := stCells_get pl i _ hp
  have hm : (s, sv) ∈ pl := List.mem_of_getElem? hp
  have := h.sv _ hm
  rw [hv] at this
  refine ⟨g, cap, s, sv, hv, hb, hlt, hp, ?_, hc _ _ h1, hc _ _ h2, hc _ _ h3, this⟩
  rw [List.getD_eq_getElem?_getD, List.getElem?_map, hp]; rfl

set_option maxHeartbeats 4000000 in
theorem r28_same (k : Nat) (s t : LSt) (hs : s.2.2.length = k) (ht : t.2.2.length = k) (sv tv : Value) (w : World) (h1 : SlAt w sv k 1 (rdL s)) (h2 : SlAt w tv k 1 (rdL t)) :
    Calls Try.prog 33 #[.agg #[.int .i64 s.1, .int .i64 s.2.1, sv], .agg #[.int .i64 t.1, .int .i64 t.2.1, tv]] w fun e w' => e = .returned (.bool (decide (s = t))) ∧ Up w w' := by
  obtain ⟨a, b, sl⟩ := s
  obtain ⟨a', b', tl⟩ := t
  dsimp only at hs ht
  obtain ⟨va, vc, rfl⟩ : ∃ a c, sv = .slice a k c := by obtain ⟨⟨a, cap, he, _⟩, _⟩ := h1; exact ⟨a, cap, he⟩
  obtain ⟨ua, uc, rfl⟩ : ∃ a c, tv = .slice a k c := by obtain ⟨⟨a, cap, he, _⟩, _⟩ := h2; exact ⟨a, cap, he⟩
  have hmax := h1.max
  have H1 := Lib.hid h1
  have H2 := Lib.hid h2
  have HS := Lib.hid hs
  have HT := Lib.hid ht
  obtain ⟨r, hr⟩ : ∃ r, decide (((a, b, sl) : LSt) = (a', b', tl)) = r := ⟨_, rfl⟩
  rw [hr]
  have HR := Lib.hid hr
  clear h1 h2 hs ht hr
  dsimp only
  by_cases ha : ¬ a = a'
  · have ha1 : (a == a') = false := by simpa using ha
    have ha2 : (a != a') = true := by simpa using ha
    obtain rfl : r = false := by rw [← HR.out]; simp [ha]
    go_enter Try.func33, Try.ntmps33
    go_wp2
    go_ret
    exact ⟨rfl, ((Up.refl w).alloc _).alloc _⟩
  replace ha : a = a' := Decidable.not_not.1 ha
  by_cases hb : ¬ b = b'
  · have hb1 : (b == b') = false := by simpa using hb
    have hb2 : (b != b') = true := by simpa using hb
    subst ha
    obtain rfl : r = false := by rw [← HR.out]; simp [hb]
    go_enter Try.func33, Try.ntmps33
    go_wp2
    go_ret
    exact ⟨rfl, ((Up.refl w).alloc _).alloc _⟩
  replace hb : b = b' := Decidable.not_not.1 hb
  subst ha hb
  have HR2 : Hid (decide (sl = tl) = r) := Lib.hid (by rw [← HR.out]; simp)
  clear HR
  obtain ⟨B, hB⟩ : ∃ B, w.heap.size = B := ⟨_, rfl⟩
  obtain ⟨W1, hW1⟩ : ∃ W, (w.alloc (.cells #[.int .i64 a, .int .i64 b, .slice va k vc] 46)).alloc (.cells #[.int .i64 a, .int .i64 b, .slice ua k uc] 46) = W := ⟨_, rfl⟩
  have hU1 : Up w W1 := by rw [← hW1]; exact ((Up.refl w).alloc _).alloc _
  have hsz : W1.heap.size = B + 2 := by rw [← hW1, size_alloc, size_alloc, hB]
  have k1 : W1.heap[B]? = some (.cells #[.int .i64 a, .int .i64 b, .slice va k vc] 46 (0, 0)) := by
    rw [← hW1, ← hB]; exact (Below.heap_alloc _ _ _ (by rw [size_alloc]; omega)).trans (heap_alloc_new w _)
  have k2 : W1.heap[B + 1]? = some (.cells #[.int .i64 a, .int .i64 b, .slice ua k uc] 46 (0, 0)) := by
    have := heap_alloc_new (w.alloc (.cells #[.int .i64 a, .int .i64 b, .slice va k vc] 46)) (.cells #[.int .i64 a, .int .i64 b, .slice ua k uc] 46)
    rw [size_alloc, hB] at this; rw [← hW1]; exact this
  have K1 := Lib.hid (cell_of_row _ _ 2 _ _ _ k1)
  have K2 := Lib.hid (cell_of_row _ _ 2 _ _ _ k2)
  have HB := Lib.hid hB
  have HW := Lib.hid hW1
  have HU1 := Lib.hid hU1
  clear hB hW1 hU1 k1 k2
  go_enter Try.func33, Try.ntmps33
  go_wp2
  rw [HW.out, HB.out]
  go_loopw [5] (fun i wr => ∃ j : Nat, j ≤ k ∧ i = .int .i64 j ∧ decide (sl.drop j = tl.drop j) = r ∧ Up W1 wr) (fun i _ => k - (intOf i).toNat)
  case atStart => exact ⟨0, by omega, rfl, by rw [List.drop_zero, List.drop_zero]; exact HR2.out, Up.refl _⟩
  case round =>
    rename_i wr
    obtain ⟨j, hj, rfl, hP, hU⟩ := hrel
    have HP := Lib.hid hP
    have c1 : wr.cell? ⟨B, 2, none⟩ = some (.slice va k vc) := (hU.cell _ _ (by omega)).trans K1.out
    have c2 : wr.cell? ⟨B + 1, 2, none⟩ = some (.slice ua k uc) := (hU.cell _ _ (by omega)).trans K2.out
    have q1 : B < wr.heap.size := by have := hU.size; omega
    have q2 : B + 1 < wr.heap.size := by have := hU.size; omega
    clear hP
    by_cases hlt : j < k
    · have hlt2 : (j : Int) < (k : Int) := by omega
      have hj0 : (0 : Int) ≤ (j : Int) := by omega
      obtain ⟨⟨a1, cp1, e1, z1, f1⟩, _⟩ := (H1.out.up HU1.out).up hU
      obtain ⟨⟨a2, cp2, e2, z2, f2⟩, _⟩ := (H2.out.up HU1.out).up hU
      simp only [Value.slice.injEq] at e1 e2
      obtain ⟨rfl, _, rfl⟩ := e1
      obtain ⟨rfl, _, rfl⟩ := e2
      obtain ⟨x, rfl⟩ : ∃ x, va = some x := by
        cases va with
        | none => exact absurd (z1 rfl) (by omega)
        | some x => exact ⟨x, rfl⟩
      obtain ⟨y, rfl⟩ : ∃ x, ua = some x := by
        cases ua with
        | none => exact absurd (z2 rfl) (by omega)
        | some x => exact ⟨x, rfl⟩
      obtain ⟨g1, g2, g3⟩ := f1 x rfl (by omega)
      obtain ⟨i1, i2, i3⟩ := f2 y rfl (by omega)
      obtain ⟨bx, ox, sx⟩ := x
      obtain ⟨bY, oy, sy⟩ := y
      have g1' : sx = none := g1
      subst g1'
      have i1' : sy = none := i1
      subst i1'
      have g2' : bx < wr.heap.size := g2
      have i2' : bY < wr.heap.size := i2
      obtain ⟨p, hp⟩ : ∃ p, sl.getD j (-1) = p := ⟨_, rfl⟩
      obtain ⟨q, hq⟩ : ∃ p, tl.getD j (-1) = p := ⟨_, rfl⟩
      have d1 : wr.cell? ⟨bx, ox + j, none⟩ = some (.int .i64 p) := by
        have := g3 j 0 hlt (by omega)
        simpa only [rdL, hp, Nat.add_zero, Nat.mul_one] using this
      have d2 : wr.cell? ⟨bY, oy + j, none⟩ = some (.int .i64 q) := by
        have := i3 j 0 hlt (by omega)
        simpa only [rdL, hq, Nat.add_zero, Nat.mul_one] using this
      have hd1 : sl.drop j = p :: sl.drop (j + 1) := by
        rw [List.drop_eq_getElem_cons (by rw [HS.out]; exact hlt), ← hp, List.getD_eq_getElem?_getD, List.getElem?_eq_getElem (by rw [HS.out]; exact hlt)]; rfl
      have hd2 : tl.drop j = q :: tl.drop (j + 1) := by
        rw [List.drop_eq_getElem_cons (by rw [HT.out]; exact hlt), ← hq, List.getD_eq_getElem?_getD, List.getElem?_eq_getElem (by rw [HT.out]; exact hlt)]; rfl
      have HP2 : Hid ((decide (p = q) && decide (sl.drop (j + 1) = tl.drop (j + 1))) = r) := Lib.hid (by rw [← HP.out, hd1, hd2]; simp)
      clear hp hq hd1 hd2 g3 i3 f1 f2 z1 z2 g1 g2 i1 i2 HP
      by_cases hpq : p = q
      · subst hpq
        have HG : Hid (decide (sl.drop (j + 1) = tl.drop (j + 1)) = r) := Lib.hid (by rw [← HP2.out]; simp)
        go_wp2_with fail
        refine wp_region_ext (by kernel_rfl) (by kernel_rfl) ?_
        repeat (go_big_quiet_step (fail))
        refine wpQuiet_nil ?_
        intro x5 hx5
        go_wp2
        go_roundw
        case rel => exact ⟨j + 1, by omega, by go_num, HG.out, hU.trans hx5⟩
        case measure => simp [intOf]; omega
      · have hb1 : (p == q) = false := by simpa using hpq
        have hb2 : (p != q) = true := by simpa using hpq
        have HG : Hid (false = r) := Lib.hid (by rw [← HP2.out]; simp [hpq])
        go_wp2_with fail
        refine wp_region_ext (by kernel_rfl) (by kernel_rfl) ?_
        repeat (go_big_quiet_step (fail))
        refine wpQuiet_nil ?_
        intro x5 hx5
        go_wp2
        go_ret
        exact ⟨ret_bool HG.out, (HU1.out.trans hU).trans hx5⟩
    · have hlt2 : (k : Int) ≤ (j : Int) := by omega
      obtain rfl : r = true := by rw [← HP.out, List.drop_eq_nil_of_le (by rw [HS.out]; omega), List.drop_eq_nil_of_le (by rw [HT.out]; omega)]; rfl
      go_wp2
      go_ret
      exact ⟨rfl, HU1.out.trans hU⟩
end Go.Proofs.Ytdanjghefhjmcaa
