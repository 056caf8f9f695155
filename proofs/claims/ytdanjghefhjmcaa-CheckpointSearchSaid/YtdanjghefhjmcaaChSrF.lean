/-
  The exhaustive search of the reference: free.
-/
import Derived.Test.YtdanjghefhjmcaaChSrA
namespace Go.Proofs.Ytdanjghefhjmcaa
open Go.ChangeShapes Go.WideShapes Go.ChangeAt Go.RowKit
set_option linter.unusedVariables false

/-- Inside a round: the list so far, the state that is looked at. -/
structure InSt (w0 : World) (base k S : Nat) (s : LSt) (sv : Value) (l : List LSt) (lv : Value) (w : World) : Prop where
  ex : ∃ pl, LsOwn w base k lv pl ∧ pl.map (·.1) = l
  cur : SvOk w k lv.ownBlock sv s
  ne : some S ≠ lv.ownBlock
  box : w.heap[S]? = some (.cells #[.int .i64 s.1, .int .i64 s.2.1, sv] 46 (0, 0))
  bl : Below base w0 w
  hb : base ≤ w.heap.size
theorem InSt.up {w0 : World} {base k S : Nat} {s : LSt} {sv : Value} {l : List LSt} {lv : Value} {w w' : World} (h : InSt w0 base k S s sv l lv w) (u : Up w w') : InSt w0 base k S s sv l lv w' := by
  obtain ⟨⟨pl, h1, h2⟩, h3, h4, h5, h6, h7⟩ := h
  exact ⟨⟨pl, h1.up u, h2⟩, h3.up u, h4, (u.heap S (Array.getElem?_eq_some_iff.1 h5).1).trans h5, h6.trans (Below.mono u h7), Nat.le_trans h7 u.size⟩
theorem InSt.row {w0 : World} {base k S : Nat} {s : LSt} {sv : Value} {l : List LSt} {lv : Value} {w : World} (h : InSt w0 base k S s sv l lv w) : ∀ g, lv.ownBlock = some g → base ≤ g ∧ g < w.heap.size := by
  obtain ⟨pl, h1, h2⟩ := h.ex
  exact h1.own.lt
def AddIn (w0 : World) (base k S : Nat) (s : LSt) (sv : Value) (l : List LSt) (e : Ending) (w' : World) : Prop := ∃ v', e = .returned v' ∧ InSt w0 base k S s sv l v' w'
theorem add_in {w0 : World} {base k S : Nat} {s : LSt} {sv : Value} {l : List LSt} {lv : Value} {w : World} (h : InSt w0 base k S s sv l lv w) (t : LSt) (tv : Value) (ht : SvOk w k lv.ownBlock tv t) (hlen : ∀ s ∈ l, s.2.2.length = k) (htl : t.2.2.length = k) (hn : l.length ≤ 10000000) :
    Calls Try.prog 29 #[lv, .agg #[.int .i64 t.1, .int .i64 t.2.1, tv]] w (AddIn w0 base k S s sv (addL l t)) := by
  obtain ⟨⟨pl, h1, rfl⟩, h3, h4, h5, h6, h7⟩ := h
  refine (r28_add base k lv pl t tv w h1 ht (fun p hp => hlen p.1 (List.mem_map.2 ⟨p, hp, rfl⟩)) htl h7 (by simpa using hn)).mono ?_
  rintro e w' ⟨v', pl', rfl, g1, g2, g3, g4⟩
  refine ⟨v', rfl, ⟨pl', g1, g2⟩, h3.grb g3 g4, ?_, ?_, ?_, Nat.le_trans h7 g3.size⟩
  · rcases g4 with e | g4
    · rw [e]; exact h4
    · intro e
      have h8 := g4 S e.symm
      have := (Array.getElem?_eq_some_iff.1 h5).1
      omega
  · exact (g3.block S (Array.getElem?_eq_some_iff.1 h5).1 h4).trans h5
  · exact h6.grown g3 h7 (fun g hg => (h1.own.lt g hg).1)
def DoIn (w0 : World) (base k S : Nat) (s : LSt) (sv : Value) (l : List LSt) (lv : Value) (w : World) (r : Bool × LSt) (e : Ending) (w' : World) : Prop := ∃ tv, e = .returned (.tuple #[.agg #[.int .i64 r.2.1, .int .i64 r.2.2.1, tv], .bool r.1]) ∧ SvOk w' k lv.ownBlock tv r.2 ∧ InSt w0 base k S s sv l lv w' ∧ Up w w' ∧ (tv = sv ∨ ∀ x n c, tv = .slice (some x) n c → w.heap.size ≤ x.block)
theorem do_in {n : Nat} (hn : n ≤ 5) {w0 : World} {base k S : Nat} (hk : k ≤ 2) {s : LSt} {sv : Value} {l : List LSt} {lv : Value} {w : World} (h : InSt w0 base k S s sv l lv w) (hs : Ok3 n k s) (op at' sl : Int) (a0 : -9223372036854775808 ≤ at') (a1 : at' ≤ 9223372036854775807) (r : Bool × LSt) (hr : doL n k s op at' sl = r) :
    Calls Try.prog 28 #[.agg #[.int .i64 s.1, .int .i64 s.2.1, sv], .int .i64 n, .agg #[.int .i64 op, .int .i64 at', .int .i64 sl]] w (DoIn w0 base k S s sv l lv w r) := by
  subst hr
  refine (r28_DoL n k hn hk s hs op at' sl a0 a1 lv.ownBlock sv w h.cur (fun g hg => (h.row g hg).2)).mono ?_
  rintro e w' ⟨tv, he, h1, h2, h3⟩
  exact ⟨tv, he, h1, h.up h2, h2, h3⟩
def CutIn (w0 : World) (base k S : Nat) (s : LSt) (sv : Value) (l : List LSt) (lv : Value) (r : Bool × LSt) (s10 s11 : Value) (wx : World) : Prop :=
  ∃ (Z : Nat) (ta : Option Addr) (tc : Nat), s10 = .pointer (some ⟨Z, 0, none⟩) ∧ s11 = .bool r.1 ∧ wx.heap[Z]? = some (.cells #[.int .i64 r.2.1, .int .i64 r.2.2.1, .slice ta k tc] 46 (0, 0)) ∧ SvOk wx k lv.ownBlock (.slice ta k tc) r.2 ∧ InSt w0 base k S s sv l lv wx
def CutOne (w0 : World) (base k S : Nat) (s : LSt) (sv : Value) (l : List LSt) (s0 : Value) (wx : World) : Prop := ∃ la lc lm, s0 = .slice la lm lc ∧ InSt w0 base k S s sv l (.slice la lm lc) wx
theorem cut_one {w0 : World} {base k S : Nat} {s : LSt} {sv : Value} {l l' : List LSt} {lv : Value} {wx : World} (h : InSt w0 base k S s sv l' lv wx) (e : l = l') : CutOne w0 base k S s sv l lv wx := by
  subst e
  obtain ⟨pl, h1, h2⟩ := h.ex
  obtain ⟨a, c, rfl⟩ := own_slice h1.own
  exact ⟨a, c, _, rfl, h⟩
theorem cand_succ (n k : Nat) (s : LSt) (j : Nat) (l : List LSt) : (candK n k s (j + 1)).foldl addL l = (optS (doL n k s 3 (s.2.2.getD j 0) j)).foldl addL ((optS (doL n k s 2 s.1 j)).foldl addL ((candK n k s j).foldl addL l)) := by
  unfold candK candS
  rw [List.range_succ, List.flatMap_append, List.foldl_append]
  simp [List.foldl_append]
theorem fold_len3 : ∀ (ss l : List LSt), (ss.foldl addL l).length ≤ l.length + ss.length
  | [], l => by simp
  | s :: r, l => by
    have h1 := fold_len3 r (addL l s)
    have h2 : (addL l s).length ≤ l.length + 1 := by unfold addL; split <;> simp
    rw [List.foldl_cons, List.length_cons]; omega
theorem cand_len (n k : Nat) (s : LSt) : ∀ j, (candK n k s j).length ≤ 2 * j
  | 0 => by simp [candK]
  | j + 1 => by
    have h := cand_len n k s j
    unfold candK at h ⊢
    rw [List.range_succ, List.flatMap_append, List.length_append]
    have h2 : ([j].flatMap (candS n k s)).length ≤ 2 := by
      rw [List.flatMap_singleton]
      unfold candS
      rw [List.length_append]
      have e1 : ∀ r : Bool × LSt, (optS r).length ≤ 1 := fun r => by unfold optS; split <;> simp
      have := e1 (doL n k s 2 s.1 j)
      have := e1 (doL n k s 3 (s.2.2.getD j 0) j)
      omega
    omega
theorem lens3 {n k : Nat} {l : List LSt} (h : ∀ s ∈ l, Ok3 n k s) : ∀ s ∈ l, s.2.2.length = k := fun s hs => (h s hs).ok.len
theorem put_ok {n k : Nat} {l : List LSt} (h : ∀ s ∈ l, Ok3 n k s) {r : Bool × LSt} (hr : Ok3 n k r.2) : ∀ s ∈ (optS r).foldl addL l, Ok3 n k s := fold_ok _ _ (opt_ok hr) h
theorem put_len (l : List LSt) (r : Bool × LSt) : ((optS r).foldl addL l).length ≤ l.length + 1 := by
  have h1 := fold_len3 (optS r) l
  have h2 : (optS r).length ≤ 1 := by unfold optS; split <;> simp
  omega
theorem slot_cell {w : World} {k j svc : Nat} {sva : Option Addr} {s : LSt} {at2 : Int} (h : SlAt w (.slice sva k svc) k 1 (rdL s)) (hj : j < k) (hl : s.2.2.length = k) (ha : s.2.2.getD j 0 = at2) : ∃ bx ox, sva = some ⟨bx, ox, none⟩ ∧ bx < w.heap.size ∧ w.cell? ⟨bx, ox + j, none⟩ = some (.int .i64 at2) := by
  obtain ⟨⟨a, cap, he, h0, hc⟩, _⟩ := h
  simp only [Value.slice.injEq] at he
  obtain ⟨rfl, _, rfl⟩ := he
  cases sva with
  | none => exact absurd (h0 rfl) (by omega)
  | some x =>
    obtain ⟨g1, g2, g3⟩ := hc x rfl (by omega)
    obtain ⟨bx, ox, sx⟩ := x
    have g1' : sx = none := g1
    subst g1'
    refine ⟨bx, ox, rfl, g2, ?_⟩
    have := g3 j 0 hj (by omega)
    rw [← ha]
    simp only [rdL, Nat.add_zero, Nat.mul_one] at this
    rw [this]
    congr 2
    rw [List.getD_eq_getElem?_getD, List.getD_eq_getElem?_getD, List.getElem?_eq_getElem (by omega)]; rfl
theorem opt_len (r : Bool × LSt) : (optS r).length ≤ 1 := by unfold optS; split <;> simp

set_option maxHeartbeats 32000000 in
set_option maxRecDepth 100000 in
theorem r28_free (n k : Nat) (hn : n ≤ 5) (hk : k ≤ 2) (base : Nat) (v : Value) (pl : List (LSt × Value)) (w : World) (hL : LsOwn w base k v pl) (hOk : ∀ s ∈ pl.map (·.1), Ok3 n k s) (hb : base ≤ w.heap.size) (final : List LSt) (hF : freeL n k 5000 (pl.map (·.1)) 0 = some final) (hlen : pl.length ≤ 5000000) :
    Calls Try.prog 26 #[v, .int .i64 n] w fun e w' => ∃ v' pl', e = .returned v' ∧ LsOwn w' base k v' pl' ∧ pl'.map (·.1) = final ∧ Below base w w' := by
  have HL := Lib.hid hL
  have HOK := Lib.hid hOk
  have HF := Lib.hid hF
  have HLEN := Lib.hid hlen
  have hnI : (n : Int) ≤ 5 := by omega
  have hkI : (k : Int) ≤ 2 := by omega
  clear hL hOk hF
  go_enter Try.func26, Try.ntmps26
  go_wp2
  go_loopw [0, 5] (fun lv iv wr => ∃ (i f : Nat) (p1 : List (LSt × Value)), iv = .int .i64 i ∧ f + i = 5000 ∧ LsOwn wr base k lv p1 ∧ (∀ s ∈ p1.map (·.1), Ok3 n k s) ∧ freeL n k f (p1.map (·.1)) i = some final ∧ p1.length ≤ pl.length + 10 * i ∧ Below base w wr ∧ base ≤ wr.heap.size) (fun _ iv _ => 5001 - (intOf iv).toNat)
  case atStart => exact ⟨0, 5000, pl, rfl, rfl, HL.out, HOK.out, HF.out, by omega, Below.refl _ _, hb⟩
  case round =>
    rename World => wo
    obtain ⟨i, f, p1, rfl, hfi, hO, hok, hfr, hpl, hbl, hbo⟩ := hrel
    obtain ⟨f, rfl⟩ : ∃ g, f = g + 1 := by
      cases f with
      | zero => unfold freeL at hfr; cases hfr
      | succ g => exact ⟨g, rfl⟩
    obtain ⟨va, vc, rfl⟩ := own_slice hO.own
    have hfr' := hfr
    unfold freeL at hfr'
    obtain ⟨m, hm⟩ : ∃ m, p1.length = m := ⟨_, rfl⟩
    have hml : (p1.map (·.1)).length = m := by rw [List.length_map, hm]
    rw [hml] at hfr'
    have HM := Lib.hid hm
    have HO := Lib.hid hO
    have HK := Lib.hid hok
    have HFR := Lib.hid hfr'
    have HBL := Lib.hid hbl
    have hpl2 : m ≤ 6000000 := by omega
    have hmI : (m : Int) ≤ 6000000 := by omega
    rw [hm] at hpl ⊢
    clear hfr hfr' hm hml hO hok hbl
    by_cases hlt : i < m
    · have hlt2 : (i : Int) < (m : Int) := by omega
      have hi0 : (0 : Int) ≤ (i : Int) := by omega
      obtain ⟨g, cap, s, sv, hv, _, hgl, hpi, hpm, d0, d1, d2, hsv⟩ := HO.out.elem (i := i) (by rw [HM.out]; exact hlt)
      rw [HM.out] at hv
      simp only [Value.slice.injEq] at hv
      obtain ⟨rfl, _, rfl⟩ := hv
      have hs3 : Ok3 n k s := by
        refine HK.out s ?_
        rw [← hpm]; exact getD_mem3 (by rw [List.length_map, HM.out]; exact hlt)
      have HFR2 : Hid (freeL n k f ((succL n k s).foldl addL (p1.map (·.1))) (i + 1) = some final) := Lib.hid (by
        have := HFR.out
        rw [if_pos hlt, hpm] at this; exact this)
      obtain ⟨sva, svc, rfl⟩ := hsv.slice
      obtain ⟨l0, hl0⟩ : ∃ l, p1.map (·.1) = l := ⟨_, rfl⟩
      have HL0 : Hid (∀ s ∈ l0, Ok3 n k s) := Lib.hid (by rw [← hl0]; exact HK.out)
      have HL0N : Hid (l0.length = m) := Lib.hid (by rw [← hl0, List.length_map, HM.out])
      rw [hl0] at HFR2
      obtain ⟨S, hS⟩ : ∃ S, wo.heap.size = S := ⟨_, rfl⟩
      obtain ⟨W1, hW1⟩ : ∃ W, wo.alloc (.cells #[.int .i64 s.1, .int .i64 s.2.1, .slice sva k svc] 46) = W := ⟨_, rfl⟩
      have hUw : Up wo W1 := by rw [← hW1]; exact (Up.refl wo).alloc _
      have hSg : (some S : Option Nat) ≠ (Value.slice (some ⟨g, 0, none⟩) m vc).ownBlock := by
        intro e
        have h9 : S = g := Option.some.inj e
        omega
      have HIN : Hid (InSt w base k S s (.slice sva k svc) l0 (.slice (some ⟨g, 0, none⟩) m vc) W1) := Lib.hid ⟨⟨p1, by have := HO.out.up hUw; rw [HM.out] at this; exact this, hl0⟩, hsv.up hUw, hSg, by rw [← hW1, ← hS]; exact heap_alloc_new wo _, HBL.out.trans (Below.mono hUw hbo), Nat.le_trans hbo hUw.size⟩
      have HS3 := Lib.hid hs3
      have HSE := Lib.hid hS
      have HWE := Lib.hid hW1
      obtain ⟨sn, sl0, ss⟩ := s
      dsimp only at d0 d1
      clear hpi hpm hsv hl0 hS hW1 hUw hs3 HFR HK HO
      have n0 := HS3.out.ok.n0
      have n1 := HS3.out.now
      have z0 := HS3.out.ok.l0
      have z1 := HS3.out.ok.l1
      dsimp only at n0 n1 z0 z1
      go_wp2
      try dsimp only
      rw [HSE.out]
      have hWE := HWE.out
      try dsimp only at hWE
      rw [hWE]
      clear hWE d0 d1 d2 HSE HWE
      go_loopw [0, 7] (fun lv jv wr => ∃ j : Nat, j ≤ k ∧ jv = .int .i64 j ∧ InSt w base k S (sn, sl0, ss) (.slice sva k svc) ((candK n k (sn, sl0, ss) j).foldl addL l0) lv wr) (fun _ jv _ => k - (intOf jv).toNat)
      case atStart => exact ⟨0, by omega, rfl, HIN.out⟩
      case round =>
        rename World => wr
        obtain ⟨j, hj, rfl, hIn⟩ := hrel
        have HIN2 := Lib.hid hIn
        have HLA : Hid (∀ s ∈ (candK n k (sn, sl0, ss) j).foldl addL l0, Ok3 n k s) := Lib.hid (fold_ok _ l0 (cand_ok hn HS3.out j) HL0.out)
        have HLAN : Hid (((candK n k (sn, sl0, ss) j).foldl addL l0).length ≤ 8000000) := Lib.hid (by
          have h1 := fold_len3 (candK n k (sn, sl0, ss) j) l0
          have h2 := cand_len n k (sn, sl0, ss) j
          have := HL0N.out
          omega)
        clear hIn
        have c0 := cell_of_row _ _ 0 _ _ _ HIN2.out.box
        have c1 := cell_of_row _ _ 1 _ _ _ HIN2.out.box
        have c2 := cell_of_row _ _ 2 _ _ _ HIN2.out.box
        have cq := (Array.getElem?_eq_some_iff.1 HIN2.out.box).1
        by_cases hjk : j < k
        · have hj2 : (j : Int) < (k : Int) := by omega
          have hj0 : (0 : Int) ≤ (j : Int) := by omega
          have HCS := Lib.hid (cand_succ n k (sn, sl0, ss) j l0)
          obtain ⟨l1, hl1⟩ : ∃ l, (candK n k (sn, sl0, ss) j).foldl addL l0 = l := ⟨_, rfl⟩
          rw [hl1] at HCS HIN2 HLA HLAN
          obtain ⟨⟨b1, t1⟩, h1e⟩ : ∃ r, doL n k (sn, sl0, ss) 2 sn j = r := ⟨_, rfl⟩
          obtain ⟨at2, hat2⟩ : ∃ x, ss.getD j 0 = x := ⟨_, rfl⟩
          obtain ⟨⟨b2, t2⟩, h2e⟩ : ∃ r, doL n k (sn, sl0, ss) 3 at2 j = r := ⟨_, rfl⟩
          have H1E := Lib.hid h1e
          have H2E := Lib.hid h2e
          have HT1 : Hid (Ok3 n k t1) := Lib.hid (by
            have := do_ok3 hn HS3.out 2 sn j (fun e => by omega)
            rw [h1e] at this; exact this)
          have hat : -1 ≤ at2 ∧ at2 ≤ 5 := by
            have hjl : j < ss.length := by have := HS3.out.ok.len; dsimp only at this; omega
            have e1 := (HS3.out.ok.sl j).1
            have e2 := HS3.out.sl j
            dsimp only at e1 e2
            rw [← hat2]
            rw [List.getD_eq_getElem?_getD, List.getElem?_eq_getElem hjl] at e1 e2 ⊢
            have e1' : -1 ≤ ss[j] := e1
            have e2' : ss[j] ≤ (n : Int) := e2
            show -1 ≤ ss[j] ∧ ss[j] ≤ 5
            omega
          have HT2 : Hid (Ok3 n k t2) := Lib.hid (by
            have := do_ok3 hn HS3.out 3 at2 j (fun e => by
              have hjl : j < ss.length := by have := HS3.out.ok.len; dsimp only at this; omega
              have e2 := HS3.out.sl j
              dsimp only at e2
              rw [← hat2]
              rw [List.getD_eq_getElem?_getD, List.getElem?_eq_getElem hjl] at e2 ⊢
              exact e2)
            rw [h2e] at this; exact this)
          have HCS2 : Hid ((candK n k (sn, sl0, ss) (j + 1)).foldl addL l0 = (optS (b2, t2)).foldl addL ((optS (b1, t1)).foldl addL l1)) := Lib.hid (by
            rw [HCS.out]; dsimp only; rw [hat2, h1e, h2e])
          obtain ⟨hat0, hat1⟩ := hat
          have HATE := Lib.hid hat2
          clear h1e h2e hl1 hat2 HCS
          go_wp2_with fail
          refine (do_in hn hk HIN2.out HS3.out 2 sn j (by omega) (by omega) (b1, t1) H1E.out).mono ?_
          rintro e x1 ⟨tv1, rfl, htv1, hin1, hu1, _⟩
          obtain ⟨t1a, t1c, rfl⟩ := htv1.slice
          have HI1 := Lib.hid (hin1.up ((Up.refl x1).alloc (.cells #[.int .i64 t1.1, .int .i64 t1.2.1, .slice t1a k t1c] 46)))
          have HTV1 := Lib.hid (htv1.up ((Up.refl x1).alloc (.cells #[.int .i64 t1.1, .int .i64 t1.2.1, .slice t1a k t1c] 46)))
          clear htv1 hin1 hu1 c0 c1 c2 cq
          obtain ⟨t1n, t1l, t1s⟩ := t1
          dsimp only at HI1 HTV1
          obtain ⟨l2, hl2⟩ : ∃ l, (optS (b1, t1n, t1l, t1s)).foldl addL l1 = l := ⟨_, rfl⟩
          have HLB : Hid (∀ s ∈ l2, Ok3 n k s) := Lib.hid (hl2 ▸ put_ok HLA.out (r := (b1, t1n, t1l, t1s)) HT1.out)
          have HLBN : Hid (l2.length ≤ 9000000) := Lib.hid (by
            have h1 := put_len l1 (b1, t1n, t1l, t1s)
            rw [hl2] at h1
            have := HLAN.out; omega)
          have HL2 := Lib.hid hl2
          rw [hl2] at HCS2
          clear hl2
          have g0 := cell_of_row _ _ 0 _ _ _ (heap_alloc_new x1 (.cells #[.int .i64 t1n, .int .i64 t1l, .slice t1a k t1c] 46))
          have g1 := cell_of_row _ _ 1 _ _ _ (heap_alloc_new x1 (.cells #[.int .i64 t1n, .int .i64 t1l, .slice t1a k t1c] 46))
          have g2 := cell_of_row _ _ 2 _ _ _ (heap_alloc_new x1 (.cells #[.int .i64 t1n, .int .i64 t1l, .slice t1a k t1c] 46))
          go_upto_if 43 with fail
          go_cut [0] from 44 to 47 (fun s0 wx => CutOne w base k S (sn, sl0, ss) (.slice sva k svc) l2 s0 wx)
          case first =>
            cases b1
            · go_wp2
              go_meet
              exact cut_one HI1.out HL2.out.symm
            · go_wp2_with fail
              refine (add_in HI1.out (t1n, t1l, t1s) _ HTV1.out (lens3 HLA.out) HT1.out.ok.len (by have := HLAN.out; omega)).mono ?_
              rintro e y1 ⟨v1, rfl, hin1⟩
              have HI5 := Lib.hid hin1
              clear hin1
              go_wp2
              go_meet
              exact cut_one HI5.out HL2.out.symm
          case rest =>
            obtain ⟨la, lc, lm, rfl, hin1⟩ := hcut
            have HI5 := Lib.hid hin1
            have hok2 := HLB.out
            have hl2 := HLBN.out
            clear hin1 g0 g1 g2 HI1 HTV1
            have e0 := cell_of_row _ _ 0 _ _ _ HI5.out.box
            have e1 := cell_of_row _ _ 1 _ _ _ HI5.out.box
            have e2 := cell_of_row _ _ 2 _ _ _ HI5.out.box
            have eq := (Array.getElem?_eq_some_iff.1 HI5.out.box).1
            obtain ⟨bx, ox, rfl, hbx, hxc⟩ := slot_cell HI5.out.cur.1 hjk HS3.out.ok.len HATE.out
            obtain ⟨t2n, t2l, t2s⟩ := t2
            have HWC := Lib.hid (rfl : wc = wc)
            go_upto_region 11 with fail
            go_cut [10, 11] from 47 to 60 (fun s10 s11 wx => CutIn w base k S (sn, sl0, ss) (.slice (some ⟨bx, ox, none⟩) k svc) l2 (.slice la lm lc) (b2, t2n, t2l, t2s) s10 s11 wx)
            case first =>
              go_region_with (go_at_call 28; refine (do_in hn hk (HI5.out.up (by repeat (first | exact Up.refl _ | refine Up.drew ?_ | refine Up.alloc ?_ _))) HS3.out 3 at2 j (by omega) (by omega) (b2, t2n, t2l, t2s) H2E.out).mono ?_; rintro e w2 ⟨tv, rfl, htv, hin2, hu2, hor2⟩; obtain ⟨ta, tc, rfl⟩ := htv.slice; have HTV := Lib.hid htv; have HI2 := Lib.hid hin2; have HU2 := Lib.hid hu2; obtain ⟨hc2, hf2⟩ := hu2.both; clear htv hin2 hu2)
              all_goals
                go_wp2_with fail
                go_meet
                have hup : Up wc w2 := by
                  refine Up.trans ?_ HU2.out
                  repeat (first | exact Up.refl _ | refine Up.drew ?_ | refine Up.alloc ?_ _)
                first
                  | exact ⟨w2.heap.size, ta, tc, rfl, rfl, heap_alloc_new w2 _, HTV.out.up ((Up.refl w2).alloc _), HI2.out.up ((Up.refl w2).alloc _)⟩
                  | exact ⟨wc.heap.size, ta, tc, rfl, rfl, row_set3 ((HU2.out.heap _ (by simp)).trans (heap_alloc_new wc _)) _ _ _, ⟨by
                      have hneZ : ∀ (x : Addr), Value.slice ta k tc = .slice (some x) k tc → 0 < k → x.block ≠ wc.heap.size := by
                        intro x hx h0s
                        rcases hor2 with h | h
                        · have := HI5.out.cur.1.blk h0s (h ▸ hx)
                          omega
                        · have := h x k tc hx
                          simp at this
                          omega
                      refine ((HTV.out.1.keepZ wc.heap.size (fun x hx => ?_) 0 _).keepZ wc.heap.size (fun x hx => ?_) 1 _).keepZ wc.heap.size (fun x hx => ?_) 2 _
                      all_goals exact hneZ x hx, HTV.out.2⟩, HI5.out.up (((hup.setCell (Nat.le_refl _) _).setCell (Nat.le_refl _) _).setCell (Nat.le_refl _) _)⟩
            case rest =>
              obtain ⟨Z, ta, tc, rfl, rfl, hZ, htv, hin2⟩ := hcut
              have HZ := Lib.hid hZ
              have HTV := Lib.hid htv
              have HI2 := Lib.hid hin2
              clear hZ htv hin2 e0 e1 e2 eq hxc hbx
              have f0 := cell_of_row _ _ 0 _ _ _ HZ.out
              have f1 := cell_of_row _ _ 1 _ _ _ HZ.out
              have f2 := cell_of_row _ _ 2 _ _ _ HZ.out
              dsimp only at f0 f1 f2
              cases b2
              · go_wp2
                go_roundw
                case rel => exact ⟨j + 1, by omega, by go_num, by rw [HCS2.out]; exact HI2.out⟩
                case measure => simp [intOf]; omega
              · go_wp2_with fail
                refine (add_in HI2.out (t2n, t2l, t2s) _ HTV.out (lens3 hok2) HT2.out.ok.len (by omega)).mono ?_
                rintro e x3 ⟨v3, rfl, hin3⟩
                have HI3 := Lib.hid hin3
                clear hin3 f0 f1 f2
                go_wp2
                go_roundw
                case rel => exact ⟨j + 1, by omega, by go_num, by rw [HCS2.out]; exact HI3.out⟩
                case measure => simp [intOf]; omega
        · have hj2 : (k : Int) ≤ (j : Int) := by omega
          have hjk2 : j = k := by omega
          subst hjk2
          obtain ⟨l1, hl1⟩ : ∃ l, (candK n j (sn, sl0, ss) j).foldl addL l0 = l := ⟨_, rfl⟩
          rw [hl1] at HIN2 HLA HLAN
          obtain ⟨t3, h3e⟩ : ∃ r, (doL n j (sn, sl0, ss) 3 0 (-1)).2 = r := ⟨_, rfl⟩
          obtain ⟨⟨b4, t4⟩, h4e⟩ : ∃ r, doL n j (sn, sl0, ss) 4 sl0 0 = r := ⟨_, rfl⟩
          have H3E : Hid (doL n j (sn, sl0, ss) 3 0 (-1) = (true, t3)) := Lib.hid (Prod.ext (rest0 n j _) h3e)
          have H4E := Lib.hid h4e
          have HT3 : Hid (Ok3 n j t3) := Lib.hid (by
            have := do_ok3 hn HS3.out 3 0 (-1) (fun e => by omega)
            rw [h3e] at this; exact this)
          have HT4 : Hid (Ok3 n j t4) := Lib.hid (by
            have := do_ok3 hn HS3.out 4 sl0 0 (fun e => by omega)
            rw [h4e] at this; exact this)
          have HSU : Hid ((succL n j (sn, sl0, ss)).foldl addL l0 = (optS (b4, t4)).foldl addL (addL l1 t3)) := Lib.hid (by
            unfold succL
            rw [List.foldl_append, hl1, List.foldl_cons, h3e]
            dsimp only
            rw [h4e])
          clear hl1 h3e h4e
          go_wp2_with fail
          refine (do_in hn hk HIN2.out HS3.out 3 0 (-1) (by omega) (by omega) (true, t3) H3E.out).mono ?_
          rintro e x1 ⟨tv1, rfl, htv1, hin1, hu1, _⟩
          obtain ⟨t1a, t1c, rfl⟩ := htv1.slice
          obtain ⟨t3n, t3l, t3s⟩ := t3
          have HI1 := Lib.hid (hin1.up ((Up.refl x1).alloc (.cells #[.int .i64 t3n, .int .i64 t3l, .slice t1a j t1c] 46)))
          have HTV1 := Lib.hid (htv1.up ((Up.refl x1).alloc (.cells #[.int .i64 t3n, .int .i64 t3l, .slice t1a j t1c] 46)))
          clear htv1 hin1 hu1 c0 c1 c2 cq
          go_wp2_with fail
          refine (add_in HI1.out (t3n, t3l, t3s) _ HTV1.out (lens3 HLA.out) HT3.out.ok.len (by have := HLAN.out; omega)).mono ?_
          rintro e y1 ⟨v1, rfl, hin1⟩
          have HI5 := Lib.hid hin1
          have HLB : Hid (∀ s ∈ addL l1 (t3n, t3l, t3s), Ok3 n j s) := Lib.hid (put_ok HLA.out (r := (true, t3n, t3l, t3s)) HT3.out)
          have HLBN : Hid ((addL l1 (t3n, t3l, t3s)).length ≤ 9000000) := Lib.hid (by
            have h1 : (addL l1 (t3n, t3l, t3s)).length ≤ l1.length + 1 := put_len l1 (true, t3n, t3l, t3s)
            have := HLAN.out; omega)
          clear hin1 HI1 HTV1
          have e0 := cell_of_row _ _ 0 _ _ _ HI5.out.box
          have e1 := cell_of_row _ _ 1 _ _ _ HI5.out.box
          have e2 := cell_of_row _ _ 2 _ _ _ HI5.out.box
          have eq := (Array.getElem?_eq_some_iff.1 HI5.out.box).1
          go_wp2_with fail
          refine (do_in hn hk HI5.out HS3.out 4 sl0 0 (by omega) (by omega) (b4, t4) H4E.out).mono ?_
          rintro e x2 ⟨tv2, rfl, htv2, hin2, hu2, _⟩
          obtain ⟨t2a, t2c, rfl⟩ := htv2.slice
          obtain ⟨t4n, t4l, t4s⟩ := t4
          have HI6 := Lib.hid (hin2.up ((Up.refl x2).alloc (.cells #[.int .i64 t4n, .int .i64 t4l, .slice t2a j t2c] 46)))
          have HTV2 := Lib.hid (htv2.up ((Up.refl x2).alloc (.cells #[.int .i64 t4n, .int .i64 t4l, .slice t2a j t2c] 46)))
          clear htv2 hin2 hu2 e0 e1 e2 eq HI5
          have HOK2 : Hid (∀ s ∈ (succL n j (sn, sl0, ss)).foldl addL l0, Ok3 n j s) := Lib.hid (fold_ok _ _ (succ_ok hn HS3.out) HL0.out)
          have HLE2 : Hid (((succL n j (sn, sl0, ss)).foldl addL l0).length ≤ m + 10) := Lib.hid (by
            have h1 := fold_len3 (succL n j (sn, sl0, ss)) l0
            have h2 : (succL n j (sn, sl0, ss)).length ≤ 2 * j + 2 := by
              unfold succL
              rw [List.length_append, List.length_cons]
              have := cand_len n j (sn, sl0, ss) j
              have := opt_len (doL n j (sn, sl0, ss) 4 sl0 0)
              dsimp only
              omega
            have := HL0N.out
            omega)
          cases b4
          · have HSU2 : Hid ((succL n j (sn, sl0, ss)).foldl addL l0 = addL l1 (t3n, t3l, t3s)) := Lib.hid HSU.out
            go_wp2
            go_roundw
            case rel =>
              obtain ⟨pl9, k1, k2⟩ := HI6.out.ex
              refine ⟨i + 1, f, pl9, by go_num, by omega, k1, ?_, ?_, ?_, HI6.out.bl, HI6.out.hb⟩
              · rw [k2, ← HSU2.out]; exact HOK2.out
              · rw [k2, ← HSU2.out]; exact HFR2.out
              · have h9 := HLE2.out
                rw [HSU2.out, ← k2, List.length_map] at h9
                omega
            case measure => simp [intOf]; omega
          · have HSU2 : Hid ((succL n j (sn, sl0, ss)).foldl addL l0 = addL (addL l1 (t3n, t3l, t3s)) (t4n, t4l, t4s)) := Lib.hid HSU.out
            go_wp2_with fail
            refine (add_in HI6.out (t4n, t4l, t4s) _ HTV2.out (lens3 HLB.out) HT4.out.ok.len (by have := HLBN.out; omega)).mono ?_
            rintro e y3 ⟨v3, rfl, hin3⟩
            have HI7 := Lib.hid hin3
            clear hin3 HI6 HTV2
            go_wp2
            go_roundw
            case rel =>
              obtain ⟨pl9, k1, k2⟩ := HI7.out.ex
              refine ⟨i + 1, f, pl9, by go_num, by omega, k1, ?_, ?_, ?_, HI7.out.bl, HI7.out.hb⟩
              · rw [k2, ← HSU2.out]; exact HOK2.out
              · rw [k2, ← HSU2.out]; exact HFR2.out
              · have h9 := HLE2.out
                rw [HSU2.out, ← k2, List.length_map] at h9
                omega
            case measure => simp [intOf]; omega
    · have hlt2 : (m : Int) ≤ (i : Int) := by omega
      have HFE : Hid (p1.map (·.1) = final) := Lib.hid (by
        have := HFR.out
        rw [if_neg hlt] at this
        exact Option.some.inj this)
      go_wp2
      go_ret
      refine ⟨_, p1, rfl, ?_, HFE.out, HBL.out⟩
      have := HO.out
      rw [HM.out] at this
      exact this
end Go.Proofs.Ytdanjghefhjmcaa
