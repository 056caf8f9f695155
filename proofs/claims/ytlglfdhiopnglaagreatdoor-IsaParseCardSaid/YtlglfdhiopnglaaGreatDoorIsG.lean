/-
  isa as text: readLine. Printed by mkIsG.py.
-/
import Derived.Test.YtlglfdhiopnglaaGreatDoorIsD
import Derived.Test.YtlglfdhiopnglaaGreatDoorGb
import Derived.BigRegion
namespace Go.Proofs.YtlglfdhiopnglaaGreatDoor
open Go.ChangeShapes Go.WideShapes Go.ChangeAt Go.RowKit
set_option linter.unusedVariables false
set_option linter.unusedSimpArgs false
set_option maxRecDepth 100000

/-- The words behind the first. -/
theorem StrsAt.tail {w : World} {a : Option Addr} {n c : Nat} {l : List ByteArray} (h : StrsAt w (.slice a n c) l) (hn : l.length = n) (h00 : 0 < n) (hc : n ≤ c) : StrsAt w (.slice (if c = 1 then a else a.map (·.add 1)) (n - 1) (c - 1)) l.tail := by
  obtain ⟨⟨a', c', hv, h0, hx⟩, hmx⟩ := h
  simp only [Value.slice.injEq] at hv
  obtain ⟨rfl, -, rfl⟩ := hv
  unfold StrsAt
  have hl : l.tail.length = n - 1 := by rw [List.length_tail, hn]
  rw [hl]
  refine ⟨⟨_, _, rfl, fun e => ?_, fun x hx' hp => ?_⟩, by omega⟩
  · by_cases hml : c = 1
    · omega
    · rw [if_neg hml] at e
      cases a with
      | none => have := h0 rfl; omega
      | some _ => cases e
  · by_cases hml : c = 1
    · omega
    · rw [if_neg hml] at hx'
      cases a with
      | none => cases hx'
      | some y =>
        obtain ⟨g1, g2, g3⟩ := hx y rfl (by omega)
        obtain ⟨yb, yo, ys⟩ := y
        obtain rfl : ys = none := g1
        simp only [Option.map_some, Option.some.injEq, add_lit_ne] at hx'
        subst hx'
        refine ⟨rfl, g2, fun i j hi' hj => ?_⟩
        obtain rfl : j = 0 := by omega
        have := g3 (i + 1) 0 (by omega) hj
        show w.cell? ⟨yb, yo + 1 + i * 1 + 0, none⟩ = _
        rw [show yo + 1 + i * 1 + 0 = yo + (i + 1) * 1 + 0 by omega, this]
        unfold strF
        rw [List.getD_eq_getElem?_getD, List.getD_eq_getElem?_getD, List.getElem?_tail]
theorem splitB_size (sep : ByteArray) (save : Nat) (b : Nat) : ∀ (k : Nat) (s : ByteArray), s.size ≤ b → ∀ t ∈ Lib.splitB sep save k s, t.size ≤ b
  | 0, s, hs, t, ht => by
    unfold Lib.splitB at ht
    simp only [List.mem_singleton] at ht
    exact ht ▸ hs
  | k + 1, s, hs, t, ht => by
    unfold Lib.splitB at ht
    split at ht
    · simp only [List.mem_singleton] at ht
      exact ht ▸ hs
    · rcases List.mem_cons.1 ht with rfl | ht
      · rw [ByteArray.size_extract]; omega
      · exact splitB_size sep save b k _ (by rw [ByteArray.size_extract]; omega) t ht
theorem getD_size {l : List ByteArray} {b : Nat} (h : ∀ t ∈ l, t.size ≤ b) (k : Nat) : (l.getD k ⟨#[]⟩).size ≤ b := by
  rw [List.getD_eq_getElem?_getD]
  cases hk : l[k]? with
  | none => exact Nat.zero_le _
  | some t => exact h t (List.mem_of_getElem? hk)

theorem SlAt.but {w w' : World} {v : Value} {n k g : Nat} {f : Nat → Nat → Value} (h : SlAt w v n k f) (u : UpBut g w w') (hne : ∀ b, blk v = some b → b ≠ g) : SlAt w' v n k f := by
  obtain ⟨⟨a, cap, rfl, h0, hc⟩, hm⟩ := h
  refine ⟨⟨a, cap, rfl, h0, fun y hy hl => ?_⟩, hm⟩
  obtain ⟨g1, g2, g3⟩ := hc y hy hl
  subst hy
  have hb := u.block y.block g2 (hne _ rfl)
  refine ⟨g1, Nat.lt_of_lt_of_le g2 u.size, fun i j hi hj => ?_⟩
  rw [← g3 i j hi hj]
  simp [World.cell?, hb]

theorem setIf_same (cs : Array Value) (j : Nat) (v : Value) (h : cs[j]? = some v) : cs.setIfInBounds j v = cs := by
  apply Array.ext_getElem?
  intro i
  rw [Array.getElem?_setIfInBounds]
  split
  · rename_i e
    subst e
    rw [h]
    split
    · rfl
    · rename_i hi
      exact absurd (Array.getElem?_eq_some_iff.1 h).1 hi
  · rfl
theorem BoxC.same {w : World} {g : Nat} {t : TypeId} {cs : Array Value} (h : BoxC w g t cs) (j : Nat) (v : Value) (hv : cs[j]? = some v) : w.setCell ⟨g, j, none⟩ v = w := by
  have e : (w.setCell ⟨g, j, none⟩ v).heap = w.heap := by
    apply Array.ext_getElem?
    intro i
    by_cases hi : i = g
    · subst hi
      have := set_heap (o := j) h v
      rw [setIf_same cs j v hv] at this
      exact this.trans h.symm
    · simp [World.setCell, Array.getElem?_modify, Ne.symm hi]
  have e2 : w.setCell ⟨g, j, none⟩ v = { w with heap := (w.setCell ⟨g, j, none⟩ v).heap } := rfl
  rw [e2, e]
theorem box_zero {w : World} {g : Nat} {t : TypeId} (h : BoxC w g t (insCs i0)) : ∀ j, j < 11 → w.setCell ⟨g, j, none⟩ (.int .i64 0) = w := fun j hj => by
  have : ∀ j, j < 11 → (insCs i0)[j]? = some (.int .i64 0) := by
    intro j hj
    rcases (by omega : j = 0 ∨ j = 1 ∨ j = 2 ∨ j = 3 ∨ j = 4 ∨ j = 5 ∨ j = 6 ∨ j = 7 ∨ j = 8 ∨ j = 9 ∨ j = 10) with rfl | rfl | rfl | rfl | rfl | rfl | rfl | rfl | rfl | rfl | rfl <;> rfl
  exact h.same j _ (this j hj)

theorem boxAll {w : World} {g : Nat} {t : TypeId} {x : Ins} (h : BoxC w g t (insCs x)) : w.cell? ⟨g, 0, none⟩ = some (.int .i64 x.1) ∧ w.cell? ⟨g, 1, none⟩ = some (.int .i64 x.2.1) ∧ w.cell? ⟨g, 2, none⟩ = some (.int .i64 x.2.2.1) ∧ w.cell? ⟨g, 3, none⟩ = some (.int .i64 x.2.2.2.1) ∧ w.cell? ⟨g, 4, none⟩ = some (.int .i64 x.2.2.2.2.1.1) ∧ w.cell? ⟨g, 5, none⟩ = some (.int .i64 x.2.2.2.2.1.2) ∧ w.cell? ⟨g, 6, none⟩ = some (.int .i64 x.2.2.2.2.2.1) ∧ w.cell? ⟨g, 7, none⟩ = some (.int .i64 x.2.2.2.2.2.2.1) ∧ w.cell? ⟨g, 8, none⟩ = some (.int .i64 x.2.2.2.2.2.2.2.1) ∧ w.cell? ⟨g, 9, none⟩ = some (.int .i64 x.2.2.2.2.2.2.2.2.1) ∧ w.cell? ⟨g, 10, none⟩ = some (.int .i64 x.2.2.2.2.2.2.2.2.2) :=
  ⟨h.i0, h.i1, h.i2, h.i3, h.i4, h.i5, h.i6, h.i7, h.i8, h.i9, h.i10⟩

theorem BoxC.s0 {w : World} {g : Nat} {t : TypeId} {a0 a1 a2 a3 a4 a5 a6 a7 a8 a9 a10 : Value} (h : BoxC w g t #[a0, a1, a2, a3, a4, a5, a6, a7, a8, a9, a10]) (u : Value) : BoxC (w.setCell ⟨g, 0, none⟩ u) g t #[u, a1, a2, a3, a4, a5, a6, a7, a8, a9, a10] := set_heap (o := 0) h u
theorem BoxC.s1 {w : World} {g : Nat} {t : TypeId} {a0 a1 a2 a3 a4 a5 a6 a7 a8 a9 a10 : Value} (h : BoxC w g t #[a0, a1, a2, a3, a4, a5, a6, a7, a8, a9, a10]) (u : Value) : BoxC (w.setCell ⟨g, 1, none⟩ u) g t #[a0, u, a2, a3, a4, a5, a6, a7, a8, a9, a10] := set_heap (o := 1) h u
theorem BoxC.s2 {w : World} {g : Nat} {t : TypeId} {a0 a1 a2 a3 a4 a5 a6 a7 a8 a9 a10 : Value} (h : BoxC w g t #[a0, a1, a2, a3, a4, a5, a6, a7, a8, a9, a10]) (u : Value) : BoxC (w.setCell ⟨g, 2, none⟩ u) g t #[a0, a1, u, a3, a4, a5, a6, a7, a8, a9, a10] := set_heap (o := 2) h u
theorem BoxC.s3 {w : World} {g : Nat} {t : TypeId} {a0 a1 a2 a3 a4 a5 a6 a7 a8 a9 a10 : Value} (h : BoxC w g t #[a0, a1, a2, a3, a4, a5, a6, a7, a8, a9, a10]) (u : Value) : BoxC (w.setCell ⟨g, 3, none⟩ u) g t #[a0, a1, a2, u, a4, a5, a6, a7, a8, a9, a10] := set_heap (o := 3) h u
theorem BoxC.s4 {w : World} {g : Nat} {t : TypeId} {a0 a1 a2 a3 a4 a5 a6 a7 a8 a9 a10 : Value} (h : BoxC w g t #[a0, a1, a2, a3, a4, a5, a6, a7, a8, a9, a10]) (u : Value) : BoxC (w.setCell ⟨g, 4, none⟩ u) g t #[a0, a1, a2, a3, u, a5, a6, a7, a8, a9, a10] := set_heap (o := 4) h u
theorem BoxC.s5 {w : World} {g : Nat} {t : TypeId} {a0 a1 a2 a3 a4 a5 a6 a7 a8 a9 a10 : Value} (h : BoxC w g t #[a0, a1, a2, a3, a4, a5, a6, a7, a8, a9, a10]) (u : Value) : BoxC (w.setCell ⟨g, 5, none⟩ u) g t #[a0, a1, a2, a3, a4, u, a6, a7, a8, a9, a10] := set_heap (o := 5) h u
theorem BoxC.s6 {w : World} {g : Nat} {t : TypeId} {a0 a1 a2 a3 a4 a5 a6 a7 a8 a9 a10 : Value} (h : BoxC w g t #[a0, a1, a2, a3, a4, a5, a6, a7, a8, a9, a10]) (u : Value) : BoxC (w.setCell ⟨g, 6, none⟩ u) g t #[a0, a1, a2, a3, a4, a5, u, a7, a8, a9, a10] := set_heap (o := 6) h u
theorem BoxC.s7 {w : World} {g : Nat} {t : TypeId} {a0 a1 a2 a3 a4 a5 a6 a7 a8 a9 a10 : Value} (h : BoxC w g t #[a0, a1, a2, a3, a4, a5, a6, a7, a8, a9, a10]) (u : Value) : BoxC (w.setCell ⟨g, 7, none⟩ u) g t #[a0, a1, a2, a3, a4, a5, a6, u, a8, a9, a10] := set_heap (o := 7) h u
theorem BoxC.s8 {w : World} {g : Nat} {t : TypeId} {a0 a1 a2 a3 a4 a5 a6 a7 a8 a9 a10 : Value} (h : BoxC w g t #[a0, a1, a2, a3, a4, a5, a6, a7, a8, a9, a10]) (u : Value) : BoxC (w.setCell ⟨g, 8, none⟩ u) g t #[a0, a1, a2, a3, a4, a5, a6, a7, u, a9, a10] := set_heap (o := 8) h u
theorem BoxC.s9 {w : World} {g : Nat} {t : TypeId} {a0 a1 a2 a3 a4 a5 a6 a7 a8 a9 a10 : Value} (h : BoxC w g t #[a0, a1, a2, a3, a4, a5, a6, a7, a8, a9, a10]) (u : Value) : BoxC (w.setCell ⟨g, 9, none⟩ u) g t #[a0, a1, a2, a3, a4, a5, a6, a7, a8, u, a10] := set_heap (o := 9) h u
theorem BoxC.s10 {w : World} {g : Nat} {t : TypeId} {a0 a1 a2 a3 a4 a5 a6 a7 a8 a9 a10 : Value} (h : BoxC w g t #[a0, a1, a2, a3, a4, a5, a6, a7, a8, a9, a10]) (u : Value) : BoxC (w.setCell ⟨g, 10, none⟩ u) g t #[a0, a1, a2, a3, a4, a5, a6, a7, a8, a9, u] := set_heap (o := 10) h u
theorem box11 {w : World} {g : Nat} {t : TypeId} {x u : Ins} (h : BoxC w g t (insCs x)) : BoxC (((((((((((w.setCell ⟨g, 0, none⟩ (.int .i64 u.1)).setCell ⟨g, 1, none⟩ (.int .i64 u.2.1)).setCell ⟨g, 2, none⟩ (.int .i64 u.2.2.1)).setCell ⟨g, 3, none⟩ (.int .i64 u.2.2.2.1)).setCell ⟨g, 4, none⟩ (.int .i64 u.2.2.2.2.1.1)).setCell ⟨g, 5, none⟩ (.int .i64 u.2.2.2.2.1.2)).setCell ⟨g, 6, none⟩ (.int .i64 u.2.2.2.2.2.1)).setCell ⟨g, 7, none⟩ (.int .i64 u.2.2.2.2.2.2.1)).setCell ⟨g, 8, none⟩ (.int .i64 u.2.2.2.2.2.2.2.1)).setCell ⟨g, 9, none⟩ (.int .i64 u.2.2.2.2.2.2.2.2.1)).setCell ⟨g, 10, none⟩ (.int .i64 u.2.2.2.2.2.2.2.2.2)) g t (insCs u) :=
  ((((((((((h.s0 _).s1 _).s2 _).s3 _).s4 _).s5 _).s6 _).s7 _).s8 _).s9 _).s10 _
theorem box11_up {w z : World} {g : Nat} {t : TypeId} {x u : Ins} (hz : Up (((((((((((w.setCell ⟨g, 0, none⟩ (.int .i64 u.1)).setCell ⟨g, 1, none⟩ (.int .i64 u.2.1)).setCell ⟨g, 2, none⟩ (.int .i64 u.2.2.1)).setCell ⟨g, 3, none⟩ (.int .i64 u.2.2.2.1)).setCell ⟨g, 4, none⟩ (.int .i64 u.2.2.2.2.1.1)).setCell ⟨g, 5, none⟩ (.int .i64 u.2.2.2.2.1.2)).setCell ⟨g, 6, none⟩ (.int .i64 u.2.2.2.2.2.1)).setCell ⟨g, 7, none⟩ (.int .i64 u.2.2.2.2.2.2.1)).setCell ⟨g, 8, none⟩ (.int .i64 u.2.2.2.2.2.2.2.1)).setCell ⟨g, 9, none⟩ (.int .i64 u.2.2.2.2.2.2.2.2.1)).setCell ⟨g, 10, none⟩ (.int .i64 u.2.2.2.2.2.2.2.2.2)) z) (h : BoxC w g t (insCs x)) : BoxC z g t (insCs u) := BoxC.up (box11 h) hz
theorem box_skip {w : World} {k : Nat} {t : TypeId} {cs : Array Value} (h : BoxC w k t cs) (p : Addr) (v : Value) (hne : p.block ≠ k) : BoxC (w.setCell p v) k t cs := by
  unfold BoxC at *
  rw [← h]
  simp [World.setCell, Array.getElem?_modify, hne]
theorem box11_skip {w z : World} {g k : Nat} {t : TypeId} {x u : Ins} (hz : Up (((((((((((w.setCell ⟨g, 0, none⟩ (.int .i64 u.1)).setCell ⟨g, 1, none⟩ (.int .i64 u.2.1)).setCell ⟨g, 2, none⟩ (.int .i64 u.2.2.1)).setCell ⟨g, 3, none⟩ (.int .i64 u.2.2.2.1)).setCell ⟨g, 4, none⟩ (.int .i64 u.2.2.2.2.1.1)).setCell ⟨g, 5, none⟩ (.int .i64 u.2.2.2.2.1.2)).setCell ⟨g, 6, none⟩ (.int .i64 u.2.2.2.2.2.1)).setCell ⟨g, 7, none⟩ (.int .i64 u.2.2.2.2.2.2.1)).setCell ⟨g, 8, none⟩ (.int .i64 u.2.2.2.2.2.2.2.1)).setCell ⟨g, 9, none⟩ (.int .i64 u.2.2.2.2.2.2.2.2.1)).setCell ⟨g, 10, none⟩ (.int .i64 u.2.2.2.2.2.2.2.2.2)) z) (h : BoxC w k t (insCs x)) (hne : g ≠ k) : BoxC z k t (insCs x) := by
  refine BoxC.up ?_ hz
  iterate 11 refine box_skip ?_ _ _ hne
  exact h

set_option maxHeartbeats 8000000 in
theorem isa_readLine (s : ByteArray) (hs : s.size ≤ 1000000) (w : World) (hR : RdW w) (hF : FTab w) (hI : ITab w) (hW : WTab w) :
    Calls Tryz.prog 39 #[.string s] w fun e w' => e = .returned (.tuple #[insV (rdLine s).1, .bool (rdLine s).2]) ∧ Up w w' := by
  obtain ⟨r, hr⟩ : ∃ r, rdLine s = r := ⟨_, rfl⟩
  rw [hr]
  unfold rdLine at hr
  have hnl := spl_len s
  have hws : ∀ t ∈ spl s, t.size ≤ 1000000 := splitB_size _ _ _ _ _ hs
  have HSP := Lib.hid (fun x (hx : Up w x) => s_Split s hs x (hR.up hx))
  generalize spl s = ws at *
  obtain ⟨n, hn⟩ : ∃ n, ws.length = n := ⟨_, rfl⟩
  have hpos : 0 < n := by omega
  have hposI : (0 : Int) < n := by omega
  rw [hn] at HSP
  clear hnl
  have HN := Lib.hid hn
  have HWS := Lib.hid hws
  have HRR := Lib.hid hR
  have HFT := Lib.hid hF
  have HIT := Lib.hid hI
  have HWT := Lib.hid hW
  have HU1 : Hid (Up w (w.alloc (.cells #[.int .i64 0, .int .i64 0, .int .i64 0, .int .i64 0, .int .i64 0, .int .i64 0, .int .i64 0, .int .i64 0, .int .i64 0, .int .i64 0, .int .i64 0] 42))) := Lib.hid ((Up.refl w).alloc _)
  have HB1 : Hid (BoxC (w.alloc (.cells #[.int .i64 0, .int .i64 0, .int .i64 0, .int .i64 0, .int .i64 0, .int .i64 0, .int .i64 0, .int .i64 0, .int .i64 0, .int .i64 0, .int .i64 0] 42)) w.heap.size 42 (insCs i0)) := Lib.hid (BoxC.new w _ _)
  obtain ⟨w0, hw0⟩ : ∃ t, ws.getD 0 ⟨#[]⟩ = t := ⟨_, rfl⟩
  rw [hw0] at hr
  have HRD := Lib.hid hr
  have hgw := hW.1
  clear hr hn hws hR hF hI hW hs
  go_enter Tryz.func39, Tryz.ntmps39
  go_upto_region 2 with (go_at_call 64; refine (HSP.out _ HU1.out).mono ?_; rintro e z ⟨a, rfl, hx, hst⟩; have HUZ := Lib.hid (HU1.out.trans hx); have HBZ := Lib.hid (HB1.out.up hx); have HST := Lib.hid hst; clear hx hst)
  obtain ⟨g2, o2, rfl, hgl, hc0⟩ := HST.out.get rfl 0 hpos
  rw [Nat.add_zero, hw0] at hc0
  have HHW := Lib.hid hw0
  clear hw0 HU1 HB1 HSP
  have hgz : 0 < z.heap.size := Nat.lt_of_lt_of_le hgw HUZ.out.size
  go_wp2
  go_loopw [12] (fun iv wr => ∃ (k m : Nat), iv = .int .i64 k ∧ k + m = 17 ∧ rdOp s.toList (ws.map (·.toList)) (fndG w0 m k) = r ∧ Up z wr) (fun iv _ => 17 - (intOf iv).toNat)
  case atStart => exact ⟨0, 17, rfl, rfl, HRD.out, Up.refl _⟩
  case round =>
    rename World => v
    obtain ⟨k, m, rfl, hkm, hg, hw⟩ := hrel
    have HV := Lib.hid hw
    have HG := Lib.hid hg
    have hgv : 0 < v.heap.size := Nat.lt_of_lt_of_le hgz hw.size
    have hglv : g2 < v.heap.size := Nat.lt_of_lt_of_le hgl hw.size
    have hcv := cell_up hw hc0
    clear hg hw HRD hc0 hgz hgl
    by_cases hlt : k < 17
    · have hltI : (k : Int) < 17 := by omega
      obtain ⟨m, rfl⟩ : ∃ q, m = q + 1 := ⟨m - 1, by omega⟩
      have hword := (HWT.out.up (HUZ.out.trans HV.out)).2 k hlt
      have HGG : Hid (rdOp s.toList (ws.map (·.toList)) (if mnS k = w0 then some k else fndG w0 m (k + 1)) = r) := Lib.hid HG.out
      clear HG
      by_cases hm : mnS k = w0
      · have qm : ((mnS k).toList == w0.toList) = true := by rw [hm]; simp
        have HGK : Hid (rdOp s.toList (ws.map (·.toList)) (some k) = r) := Lib.hid (by have := HGG.out; rwa [if_pos hm] at this)
        have hm := Lib.hid hm
        clear HGG
        go_upto_region 5 with fail
        refine wp_region_ext (by kernel_rfl) (by kernel_rfl) ?_
        repeat (go_big_quiet_step (fail))
        refine wpQuiet_nil ?_
        intro x hx
        have HUX := Lib.hid (HUZ.out.trans (HV.out.trans hx))
        have HSX := Lib.hid (HST.out.up (HV.out.trans hx))
        have HBR := Lib.hid (HBZ.out.up (HV.out.trans hx))
        clear hx hcv hglv hword qm HST HUZ HBZ HV
        obtain ⟨W, hW⟩ : ∃ W, ws.map (·.toList) = W := ⟨_, rfl⟩
        rw [hW] at HGK
        have HTAIL : Hid (ws.tail.map (·.toList) = W.tail) := Lib.hid (by rw [← hW, List.map_tail])
        have HLW : Hid (W.length = n) := Lib.hid (by rw [← hW, List.length_map]; exact HN.out)
        have HW1 : Hid (W.getD 1 [] = (ws.getD 1 ⟨#[]⟩).toList) := Lib.hid (by rw [← hW]; exact getD_map_toList ws 1)
        obtain ⟨X, hX⟩ : ∃ X, rdStart k W = X := ⟨_, rfl⟩
        have HRX : Hid (rdEnd s.toList (rdArgs (opsF X) X W.tail) = r) := Lib.hid (by rw [← hX]; exact HGK.out)
        have HIR : Hid (InR X) := Lib.hid (by rw [← hX]; exact rdStart_R k hlt W)
        have HXK : Hid (X.1 = k) := Lib.hid (by rw [← hX]; rfl)
        have HTS : Hid (StrsAt x (.slice (if n = 1 then some ⟨g2, o2, none⟩ else (some (⟨g2, o2, none⟩ : Addr)).map (·.add 1)) (n - 1) (n - 1)) ws.tail) := Lib.hid (HSX.out.tail HN.out hpos (Nat.le_refl _))
        clear hW HGK
        have h1I : (1 : Int) ≤ n := by omega
        by_cases h12 : k = 12
        · have q12 : ((k : Int) == 12) = true := by rw [beq_iff_eq]; omega
          by_cases hn1 : 1 < n
          · have hn1I : (1 : Int) < n := by omega
            obtain ⟨gg, oo, he, hl1, hc1⟩ := HSX.out.get rfl 1 hn1
            cases he
            have HXC : Hid (insCs X = #[.int .i64 k, .int .i64 0, .int .i64 0, .int .i64 0, .int .i64 (rdName (ws.getD 1 ⟨#[]⟩).toList), .int .i64 1, .int .i64 0, .int .i64 0, .int .i64 0, .int .i64 0, .int .i64 0]) := Lib.hid (by rw [← hX]; unfold rdStart insCs; rw [if_pos ⟨h12, by rw [HLW.out]; exact hn1⟩, HW1.out])
            have HNM := Lib.hid (fun y => isa_readName (ws.getD 1 ⟨#[]⟩) y)
            generalize ws.getD 1 ⟨#[]⟩ = w1 at *
            have HTS : Hid (StrsAt x (.slice (some ⟨g2, o2 + 1, none⟩) (n - 1) (n - 1)) ws.tail) := Lib.hid (by have := HTS.out; rw [if_neg (by omega)] at this; exact this)
            clear h12 hX HW1
            go_upto_region 9 with (go_at_call 65; refine (HNM.out _).mono ?_; rintro e y ⟨rfl, rfl⟩)
            refine wp_gen (F := fun u => Up x u ∧ BoxC u x.heap.size 42 (insCs X)) ⟨(Up.refl x).alloc _, by rw [HXC.out]; exact BoxC.new x _ _⟩ ?_
            rintro u ⟨hu, hb⟩
            have HU := Lib.hid hu
            have HB := Lib.hid hb
            clear hu hb HXC
            obtain ⟨ks, hks⟩ : ∃ ks, opsF X = ks := ⟨_, rfl⟩
            have HKIND : Hid (∀ t ∈ ks, 1 ≤ t ∧ t ≤ 17) := Lib.hid (by rw [← hks]; exact opsF_kinds X (by rw [HXK.out]; omega))
            have hol : ks.length ≤ 5 := by rw [← hks]; exact opsF_len X
            obtain ⟨nk, hnk⟩ : ∃ q, ks.length = q := ⟨_, rfl⟩
            have HNK := Lib.hid hnk
            have HOP : Hid (∀ y, Up w y → Calls Tryz.prog 51 #[.agg #[.int .i64 X.1, .int .i64 X.2.1, .int .i64 X.2.2.1, .int .i64 X.2.2.2.1, .int .i64 X.2.2.2.2.1.1, .int .i64 X.2.2.2.2.1.2, .int .i64 X.2.2.2.2.2.1, .int .i64 X.2.2.2.2.2.2.1, .int .i64 X.2.2.2.2.2.2.2.1, .int .i64 X.2.2.2.2.2.2.2.2.1, .int .i64 X.2.2.2.2.2.2.2.2.2]] y fun e' w' => ∃ v, e' = .returned v ∧ Up y w' ∧ w'.ownsRow y.heap.size 3 1 v nk (intV ks)) := Lib.hid (fun y hy => by
              have := isa_operands X (by rw [HXK.out]; unfold knownB; rw [decide_eq_true_eq]; omega) y (HIT.out.up hy)
              rw [hks, hnk] at this
              exact this)
            rw [hks] at HRX
            rw [hnk] at hol
            have holI : (nk : Int) ≤ 5 := by omega
            clear hks hnk
            obtain ⟨b0, b1, b2, b3, b4, b5, b6, b7, b8, b9, b10⟩ := boxAll HB.out
            go_wp2_with (go_at_call 51; refine (HOP.out _ (HUX.out.trans HU.out)).mono ?_; rintro e y ⟨v, rfl, hy, hv⟩; obtain ⟨ka, kc, rfl⟩ := own_slice hv; have HY := Lib.hid hy; have HVV := Lib.hid hv; clear hy hv)
            clear HOP b0 b1 b2 b3 b4 b5 b6 b7 b8 b9 b10
            have HIN : Hid (IntsAt y (.slice ka nk kc) ks) := Lib.hid (IntsAt.own HVV.out HNK.out (by omega))
            have HKB : Hid (∀ b, blk (.slice ka nk kc) = some b → b ≠ x.heap.size) := Lib.hid (fun b hb => by
              have h1 := HB.out.lt
              rcases HVV.out.2 with ⟨e, _⟩ | ⟨g', cap, cur, e, hbb, hg', _⟩
              · rw [e] at hb; cases hb
              · rw [e] at hb
                have : g' = b := by simpa [blk] using hb
                omega)
            have HBY := Lib.hid (HB.out.up HY.out)
            have HUY := Lib.hid (HU.out.trans HY.out)
            clear HVV HB HU HY
            go_loopw [7, 43] (fun rv jv wr => ∃ (j : Nat) (Y : Ins) (ra : Option Addr) (rn rc : Nat) (rl : List ByteArray), j ≤ nk ∧ jv = .int .i64 j ∧ rv = .slice ra rn rc ∧ StrsAt x (.slice ra rn rc) rl ∧ rl.length = rn ∧ rn ≤ rc ∧ (∀ t ∈ rl, t.size ≤ 1000000) ∧ InR Y ∧ Y.1 = k ∧ BoxC wr x.heap.size 42 (insCs Y) ∧ IntsAt wr (.slice ka nk kc) ks ∧ rdEnd s.toList (rdArgs (ks.drop j) Y (rl.map (·.toList))) = r ∧ Up x wr) (fun _ jv _ => nk - (intOf jv).toNat)
            case atStart => exact ⟨0, X, _, _, _, ws.tail, by omega, rfl, rfl, HTS.out, by rw [List.length_tail, HN.out], Nat.le_refl _, fun t ht => HWS.out t (List.mem_of_mem_tail ht), HIR.out, HXK.out, HBY.out, HIN.out, by rw [List.drop_zero, HTAIL.out]; exact HRX.out, HUY.out⟩
            case round =>
              rename World => wr
              obtain ⟨j, Y, ra, rn, rc, rl, hj, rfl, rfl, hst, hrl, hrc, hsz, hir, hyk, hbx, hint, hrd, hup⟩ := hrel
              have HSTR := Lib.hid hst
              have HRL := Lib.hid hrl
              have HSZ := Lib.hid hsz
              have HIY := Lib.hid hir
              have HYK := Lib.hid hyk
              have HBW := Lib.hid hbx
              have HINT := Lib.hid hint
              have HRD := Lib.hid hrd
              have HUW := Lib.hid hup
              clear hst hrl hsz hir hyk hbx hint hrd hup HRX HIR HXK HTS HBY HIN HUY
              by_cases hlt2 : j < nk
              · have hlt2I : (j : Int) < nk := by omega
                obtain ⟨kd, hkd⟩ : ∃ q, ks.getD j 0 = q := ⟨_, rfl⟩
                obtain ⟨kg, ko, hka, hkl, hkc⟩ := intsAt_get HINT.out rfl j hlt2
                rw [hkd] at hkc
                subst hka
                have hjl : j < ks.length := by rw [HNK.out]; exact hlt2
                have hkj : ks[j] = kd := by rw [← hkd, List.getD_eq_getElem?_getD, List.getElem?_eq_getElem hjl]; rfl
                have HKD : Hid (1 ≤ kd ∧ kd ≤ 17) := Lib.hid (HKIND.out kd (hkj ▸ List.getElem_mem hjl))
                have HR2 : Hid (rdEnd s.toList (if (rl.map (·.toList)).length = 0 then none else rdArgs (ks.drop (j + 1)) (rdOpd Y kd (rl.map (·.toList))) (rl.map (·.toList)).tail) = r) := Lib.hid (by
                  have := HRD.out
                  rw [List.drop_eq_getElem_cons hjl, hkj] at this
                  exact this)
                clear hkd hkj HRD
                by_cases hr0 : rn = 0
                · have HE : Hid (r = (i0, false)) := Lib.hid (by rw [← HR2.out, if_pos (by rw [List.length_map, HRL.out]; exact hr0)]; rfl)
                  subst hr0
                  have HVV := Lib.hid (HUX.out.trans HUW.out)
                  have HBV := Lib.hid (HBR.out.up HUW.out)
                  clear HR2 HBR
                  have bf := HBV.out.frozen
                  obtain ⟨b0, b1, b2, b3, b4, b5, b6, b7, b8, b9, b10⟩ := boxAll HBV.out
                  have s0 := box_zero HBV.out 0 (by decide)
                  have s1 := box_zero HBV.out 1 (by decide)
                  have s2 := box_zero HBV.out 2 (by decide)
                  have s3 := box_zero HBV.out 3 (by decide)
                  have s4 := box_zero HBV.out 4 (by decide)
                  have s5 := box_zero HBV.out 5 (by decide)
                  have s6 := box_zero HBV.out 6 (by decide)
                  have s7 := box_zero HBV.out 7 (by decide)
                  have s8 := box_zero HBV.out 8 (by decide)
                  have s9 := box_zero HBV.out 9 (by decide)
                  have s10 := box_zero HBV.out 10 (by decide)
                  go_wp2
                  refine bodyPost_ret (v := .tuple #[.agg #[.int .i64 0, .int .i64 0, .int .i64 0, .int .i64 0, .int .i64 0, .int .i64 0, .int .i64 0, .int .i64 0, .int .i64 0, .int .i64 0, .int .i64 0], .bool false]) (by simp [results, Tryz.results39, go_sem, *]) rfl ?_
                  exact ⟨by rw [HE.out], HVV.out⟩
                · have hr1 : 0 < rn := by omega
                  have hr1I : (0 : Int) < rn := by omega
                  have hr2I : (1 : Int) ≤ rn := by omega
                  have q0 : ((rn : Int) == 0) = false := by rw [beq_eq_false_iff_ne]; omega
                  have HRO := Lib.hid (fun (v : World) (hv : Up wr v) => isa_readOperand x.heap.size Y kd HKD.out ra rn rc rl v ((HSTR.out.up HUW.out).up hv) HRL.out hr1 (fun q => getD_size HSZ.out q) (HRR.out.up (HUX.out.trans (HUW.out.trans hv))) (HBW.out.up hv))
                  have HR3 : Hid (rdEnd s.toList (rdArgs (ks.drop (j + 1)) (rdOpd Y kd (rl.map (·.toList))) (rl.tail.map (·.toList))) = r) := Lib.hid (by
                    have := HR2.out
                    rw [if_neg (by rw [List.length_map, HRL.out]; exact hr0), ← List.map_tail] at this
                    exact this)
                  have HTL2 := Lib.hid (HSTR.out.tail HRL.out hr1 hrc)
                  have hrcI : (rn : Int) ≤ rc := by omega
                  clear HR2
                  go_wp2_with (go_at_call 66; refine (HRO.out _ (Up.refl _)).mono ?_; rintro e w2 ⟨rfl, hub, hb2⟩; have HUB := Lib.hid hub; have HB2 := Lib.hid hb2; clear hub hb2)
                  go_roundw
                  case rel => exact ⟨j + 1, _, _, _, _, rl.tail, by omega, by go_num, rfl, HTL2.out, by rw [List.length_tail, HRL.out], by omega, fun t ht => HSZ.out t (List.mem_of_mem_tail ht), rdOpd_R HIY.out _ _, (rdOpd_op _ _ _).trans HYK.out, HB2.out, HINT.out.but HUB.out HKB.out, HR3.out, UpBut.up HUW.out (Nat.le_refl _) HUB.out⟩
                  case measure => simp [intOf]; omega
              · obtain rfl : j = nk := by omega
                have HE : Hid (r = (Y, wfB Y && (lineL Y == s.toList))) := Lib.hid (by
                  rw [← HRD.out, List.drop_eq_nil_of_le (by rw [HNK.out]; omega)]; rfl)
                have HVV := Lib.hid (HUX.out.trans HUW.out)
                have HBV := Lib.hid (HBR.out.up HUW.out)
                obtain ⟨wf, hwf⟩ : ∃ q, wfB Y = q := ⟨_, rfl⟩
                obtain ⟨ll, hll⟩ : ∃ q, lineL Y = q := ⟨_, rfl⟩
                have HWF : Hid (∀ v, Up w v → Calls Tryz.prog 30 #[.agg #[.int .i64 Y.1, .int .i64 Y.2.1, .int .i64 Y.2.2.1, .int .i64 Y.2.2.2.1, .int .i64 Y.2.2.2.2.1.1, .int .i64 Y.2.2.2.2.1.2, .int .i64 Y.2.2.2.2.2.1, .int .i64 Y.2.2.2.2.2.2.1, .int .i64 Y.2.2.2.2.2.2.2.1, .int .i64 Y.2.2.2.2.2.2.2.2.1, .int .i64 Y.2.2.2.2.2.2.2.2.2]] v fun e' w' => e' = .returned (.bool wf) ∧ Up v w') := Lib.hid (fun v hv => by rw [← hwf]; exact isa_wellFormed Y HIY.out v (HIT.out.up hv))
                have HLN : Hid (∀ v, Up w v → Calls Tryz.prog 32 #[.agg #[.int .i64 Y.1, .int .i64 Y.2.1, .int .i64 Y.2.2.1, .int .i64 Y.2.2.2.1, .int .i64 Y.2.2.2.2.1.1, .int .i64 Y.2.2.2.2.1.2, .int .i64 Y.2.2.2.2.2.1, .int .i64 Y.2.2.2.2.2.2.1, .int .i64 Y.2.2.2.2.2.2.2.1, .int .i64 Y.2.2.2.2.2.2.2.2.1, .int .i64 Y.2.2.2.2.2.2.2.2.2]] v fun e' w' => e' = .returned (.string (bst ll)) ∧ Up v w') := Lib.hid (fun v hv => by rw [← hll]; exact isa_line Y HIY.out (by rw [HYK.out]; unfold knownB; rw [decide_eq_true_eq]; omega) v (HFT.out.up hv) (HIT.out.up hv) (HWT.out.up hv))
                rw [hwf, hll] at HE
                have qll : ((bst ll).toList == s.toList) = (ll == s.toList) := by rw [bst_list]
                have hxlt : x.heap.size < wr.heap.size := HBW.out.lt
                have HNE : Hid (w.heap.size ≠ x.heap.size) := Lib.hid (by have := HUX.out.size; have := HBR.out.lt; omega)
                obtain ⟨c0, c1, c2, c3, c4, c5, c6, c7, c8, c9, c10⟩ := boxAll HBW.out
                clear hwf hll HRD HSTR HINT HBR
                have HUWR := HVV
                have hlt0 : w.heap.size < wr.heap.size := HBV.out.lt
                have hxne : x.heap.size ≠ w.heap.size := Ne.symm HNE.out
                have UPW : ∀ v, Rr w.heap.size (.cells (insCs Y) 42 (0, 0)) wr v → Up w v := fun v hv => UpBut.up HUWR.out (Nat.le_refl _) hv.1
                have HUPW := Lib.hid UPW
                have HST : Hid (∀ v, Rr w.heap.size (.cells (insCs Y) 42 (0, 0)) wr v → ∃ u, BoxC v w.heap.size 42 (insCs u)) := Lib.hid (fun v hv => by
                  rcases hv.2 with e | e
                  · exact ⟨i0, e.trans HBV.out⟩
                  · exact ⟨Y, e⟩)
                clear UPW HBV
                go_upto_region 18 with fail
                refine wp_region_mk_all_r (g := w.heap.size) (C := .cells (insCs Y) 42 (0, 0)) (fun f _ v _ => (f = 30 → v = .bool wf) ∧ (f = 32 → v = .string (bst ll))) (by kernel_rfl) (by kernel_rfl) ?_
                iterate 2 (refine wpMk_quiet_r anti_post_r (by kernel_rfl) ?_; go_big_quiet_step (fail); refine wpQuiet_nil ?_)
                refine wpMk_enter_r anti_post_r 30 #[.agg #[.int .i64 Y.1, .int .i64 Y.2.1, .int .i64 Y.2.2.1, .int .i64 Y.2.2.2.1, .int .i64 Y.2.2.2.2.1.1, .int .i64 Y.2.2.2.2.1.2, .int .i64 Y.2.2.2.2.2.1, .int .i64 Y.2.2.2.2.2.2.1, .int .i64 Y.2.2.2.2.2.2.2.1, .int .i64 Y.2.2.2.2.2.2.2.2.1, .int .i64 Y.2.2.2.2.2.2.2.2.2]] (fun v x y h hu => h) (by kernel_rfl) (fun x => by go_simp) (fun q hq => (HWF.out _ (HUPW.out _ hq)).mono fun e z ⟨h1, h2⟩ => ⟨_, h1, Up.rr h2 _ _ (hq.lt hlt0), fun _ => rfl, fun h => absurd h (by decide)⟩) ?_
                rintro v ⟨q0, hq0, hv0, -⟩
                obtain rfl := hv0 rfl
                clear hq0 hv0
                simp only [Act.put, List.setIfInBounds_toArray, List.set_cons_succ, List.set_cons_zero]
                refine wpMk_quiet_r anti_post_r (by kernel_rfl) ?_; go_big_quiet_step (fail); refine wpQuiet_nil ?_
                cases wf
                · iterate 4 (refine wpMk_unwanted_r anti_post_r (by kernel_rfl) ?_)
                  simp only [Act.put, List.setIfInBounds_toArray, List.set_cons_succ, List.set_cons_zero]
                  refine wpMk_quiet_r anti_post_r (by kernel_rfl) ?_; go_big_quiet_step (fail); refine wpQuiet_nil ?_
                  refine wpMk_store_r anti_post_r (by kernel_rfl) (fun q hq => by
                    obtain ⟨u, hu⟩ := HST.out q hq
                    have uf := hu.frozen
                    obtain ⟨u0, u1, u2, u3, u4, u5, u6, u7, u8, u9, u10⟩ := boxAll hu
                    exact ⟨(((((((((((q.setCell ⟨w.heap.size, 0, none⟩ (.int .i64 Y.1)).setCell ⟨w.heap.size, 1, none⟩ (.int .i64 Y.2.1)).setCell ⟨w.heap.size, 2, none⟩ (.int .i64 Y.2.2.1)).setCell ⟨w.heap.size, 3, none⟩ (.int .i64 Y.2.2.2.1)).setCell ⟨w.heap.size, 4, none⟩ (.int .i64 Y.2.2.2.2.1.1)).setCell ⟨w.heap.size, 5, none⟩ (.int .i64 Y.2.2.2.2.1.2)).setCell ⟨w.heap.size, 6, none⟩ (.int .i64 Y.2.2.2.2.2.1)).setCell ⟨w.heap.size, 7, none⟩ (.int .i64 Y.2.2.2.2.2.2.1)).setCell ⟨w.heap.size, 8, none⟩ (.int .i64 Y.2.2.2.2.2.2.2.1)).setCell ⟨w.heap.size, 9, none⟩ (.int .i64 Y.2.2.2.2.2.2.2.2.1)).setCell ⟨w.heap.size, 10, none⟩ (.int .i64 Y.2.2.2.2.2.2.2.2.2)), by go_simp, ((((((((((((UpBut.refl _ _).setCell 0 none _).setCell 1 none _).setCell 2 none _).setCell 3 none _).setCell 4 none _).setCell 5 none _).setCell 6 none _).setCell 7 none _).setCell 8 none _).setCell 9 none _).setCell 10 none _), box11 hu⟩) ?_
                  simp only [Act.put, List.setIfInBounds_toArray, List.set_cons_succ, List.set_cons_zero]
                  refine wpMk_quiet_r anti_post_r (by kernel_rfl) ?_; go_big_quiet_step (fail); refine wpQuiet_nil ?_
                  refine wpMk_nil_r ?_
                  rintro q hq ⟨-, hC⟩
                  have HRZ : Hid (BoxC q w.heap.size 42 (insCs Y)) := Lib.hid hC
                  have HUQ := Lib.hid (HUPW.out q hq)
                  clear hC hq
                  have rf := HRZ.out.frozen
                  obtain ⟨r0, r1, r2, r3, r4, r5, r6, r7, r8, r9, r10⟩ := boxAll HRZ.out
                  go_wp2
                  refine bodyPost_ret (v := .tuple #[insV Y, .bool false]) (by simp [results, Tryz.results39, go_sem, *]) rfl ?_
                  exact ⟨by rw [HE.out]; rfl, HUQ.out⟩
                · refine wpMk_quiet_r anti_post_r (by kernel_rfl) ?_; go_big_quiet_step (fail); refine wpQuiet_nil ?_
                  refine wpMk_enter_r anti_post_r 32 #[.agg #[.int .i64 Y.1, .int .i64 Y.2.1, .int .i64 Y.2.2.1, .int .i64 Y.2.2.2.1, .int .i64 Y.2.2.2.2.1.1, .int .i64 Y.2.2.2.2.1.2, .int .i64 Y.2.2.2.2.2.1, .int .i64 Y.2.2.2.2.2.2.1, .int .i64 Y.2.2.2.2.2.2.2.1, .int .i64 Y.2.2.2.2.2.2.2.2.1, .int .i64 Y.2.2.2.2.2.2.2.2.2]] (fun v x y h hu => h) (by kernel_rfl) (fun x => by go_simp) (fun q hq => (HLN.out _ (HUPW.out _ hq)).mono fun e z ⟨h1, h2⟩ => ⟨_, h1, Up.rr h2 _ _ (hq.lt hlt0), fun h => absurd h (by decide), fun _ => rfl⟩) ?_
                  rintro v ⟨q0, hq0, -, hv0⟩
                  obtain rfl := hv0 rfl
                  clear hq0 hv0
                  simp only [Act.put, List.setIfInBounds_toArray, List.set_cons_succ, List.set_cons_zero]
                  iterate 3 (refine wpMk_quiet_r anti_post_r (by kernel_rfl) ?_; go_big_quiet_step (fail); refine wpQuiet_nil ?_)
                  refine wpMk_store_r anti_post_r (by kernel_rfl) (fun q hq => by
                    obtain ⟨u, hu⟩ := HST.out q hq
                    have uf := hu.frozen
                    obtain ⟨u0, u1, u2, u3, u4, u5, u6, u7, u8, u9, u10⟩ := boxAll hu
                    exact ⟨(((((((((((q.setCell ⟨w.heap.size, 0, none⟩ (.int .i64 Y.1)).setCell ⟨w.heap.size, 1, none⟩ (.int .i64 Y.2.1)).setCell ⟨w.heap.size, 2, none⟩ (.int .i64 Y.2.2.1)).setCell ⟨w.heap.size, 3, none⟩ (.int .i64 Y.2.2.2.1)).setCell ⟨w.heap.size, 4, none⟩ (.int .i64 Y.2.2.2.2.1.1)).setCell ⟨w.heap.size, 5, none⟩ (.int .i64 Y.2.2.2.2.1.2)).setCell ⟨w.heap.size, 6, none⟩ (.int .i64 Y.2.2.2.2.2.1)).setCell ⟨w.heap.size, 7, none⟩ (.int .i64 Y.2.2.2.2.2.2.1)).setCell ⟨w.heap.size, 8, none⟩ (.int .i64 Y.2.2.2.2.2.2.2.1)).setCell ⟨w.heap.size, 9, none⟩ (.int .i64 Y.2.2.2.2.2.2.2.2.1)).setCell ⟨w.heap.size, 10, none⟩ (.int .i64 Y.2.2.2.2.2.2.2.2.2)), by go_simp, ((((((((((((UpBut.refl _ _).setCell 0 none _).setCell 1 none _).setCell 2 none _).setCell 3 none _).setCell 4 none _).setCell 5 none _).setCell 6 none _).setCell 7 none _).setCell 8 none _).setCell 9 none _).setCell 10 none _), box11 hu⟩) ?_
                  simp only [Act.put, List.setIfInBounds_toArray, List.set_cons_succ, List.set_cons_zero]
                  refine wpMk_quiet_r anti_post_r (by kernel_rfl) ?_; go_big_quiet_step (fail); refine wpQuiet_nil ?_
                  refine wpMk_nil_r ?_
                  rintro q hq ⟨-, hC⟩
                  have HRZ : Hid (BoxC q w.heap.size 42 (insCs Y)) := Lib.hid hC
                  have HUQ := Lib.hid (HUPW.out q hq)
                  clear hC hq
                  have rf := HRZ.out.frozen
                  obtain ⟨r0, r1, r2, r3, r4, r5, r6, r7, r8, r9, r10⟩ := boxAll HRZ.out
                  go_wp2
                  refine bodyPost_ret (v := .tuple #[insV Y, .bool (ll == s.toList)]) (by simp [results, Tryz.results39, go_sem, *]) rfl ?_
                  exact ⟨by rw [HE.out]; rfl, HUQ.out⟩
          · have hn1I : ¬ (1 : Int) < n := by omega
            have qn : decide ((1 : Int) < n) = false := by simp; omega
            have HTS : Hid (StrsAt x (.slice (some ⟨g2, o2, none⟩) (n - 1) (n - 1)) ws.tail) := Lib.hid (by have := HTS.out; rw [if_pos (by omega)] at this; exact this)
            have HXC : Hid (insCs X = #[.int .i64 k, .int .i64 0, .int .i64 0, .int .i64 0, .int .i64 0, .int .i64 0, .int .i64 0, .int .i64 0, .int .i64 0, .int .i64 0, .int .i64 0]) := Lib.hid (by rw [← hX]; unfold rdStart insCs; rw [if_neg (fun h => by rw [HLW.out] at h; exact hn1 h.2)])
            clear h12 hX HW1
            go_upto_region 9 with fail
            refine wp_gen (F := fun u => Up x u ∧ BoxC u x.heap.size 42 (insCs X)) ⟨(Up.refl x).alloc _, by rw [HXC.out]; exact BoxC.new x _ _⟩ ?_
            rintro u ⟨hu, hb⟩
            have HU := Lib.hid hu
            have HB := Lib.hid hb
            clear hu hb HXC
            obtain ⟨ks, hks⟩ : ∃ ks, opsF X = ks := ⟨_, rfl⟩
            have HKIND : Hid (∀ t ∈ ks, 1 ≤ t ∧ t ≤ 17) := Lib.hid (by rw [← hks]; exact opsF_kinds X (by rw [HXK.out]; omega))
            have hol : ks.length ≤ 5 := by rw [← hks]; exact opsF_len X
            obtain ⟨nk, hnk⟩ : ∃ q, ks.length = q := ⟨_, rfl⟩
            have HNK := Lib.hid hnk
            have HOP : Hid (∀ y, Up w y → Calls Tryz.prog 51 #[.agg #[.int .i64 X.1, .int .i64 X.2.1, .int .i64 X.2.2.1, .int .i64 X.2.2.2.1, .int .i64 X.2.2.2.2.1.1, .int .i64 X.2.2.2.2.1.2, .int .i64 X.2.2.2.2.2.1, .int .i64 X.2.2.2.2.2.2.1, .int .i64 X.2.2.2.2.2.2.2.1, .int .i64 X.2.2.2.2.2.2.2.2.1, .int .i64 X.2.2.2.2.2.2.2.2.2]] y fun e' w' => ∃ v, e' = .returned v ∧ Up y w' ∧ w'.ownsRow y.heap.size 3 1 v nk (intV ks)) := Lib.hid (fun y hy => by
              have := isa_operands X (by rw [HXK.out]; unfold knownB; rw [decide_eq_true_eq]; omega) y (HIT.out.up hy)
              rw [hks, hnk] at this
              exact this)
            rw [hks] at HRX
            rw [hnk] at hol
            have holI : (nk : Int) ≤ 5 := by omega
            clear hks hnk
            obtain ⟨b0, b1, b2, b3, b4, b5, b6, b7, b8, b9, b10⟩ := boxAll HB.out
            go_wp2_with (go_at_call 51; refine (HOP.out _ (HUX.out.trans HU.out)).mono ?_; rintro e y ⟨v, rfl, hy, hv⟩; obtain ⟨ka, kc, rfl⟩ := own_slice hv; have HY := Lib.hid hy; have HVV := Lib.hid hv; clear hy hv)
            clear HOP b0 b1 b2 b3 b4 b5 b6 b7 b8 b9 b10
            have HIN : Hid (IntsAt y (.slice ka nk kc) ks) := Lib.hid (IntsAt.own HVV.out HNK.out (by omega))
            have HKB : Hid (∀ b, blk (.slice ka nk kc) = some b → b ≠ x.heap.size) := Lib.hid (fun b hb => by
              have h1 := HB.out.lt
              rcases HVV.out.2 with ⟨e, _⟩ | ⟨g', cap, cur, e, hbb, hg', _⟩
              · rw [e] at hb; cases hb
              · rw [e] at hb
                have : g' = b := by simpa [blk] using hb
                omega)
            have HBY := Lib.hid (HB.out.up HY.out)
            have HUY := Lib.hid (HU.out.trans HY.out)
            clear HVV HB HU HY
            go_loopw [7, 43] (fun rv jv wr => ∃ (j : Nat) (Y : Ins) (ra : Option Addr) (rn rc : Nat) (rl : List ByteArray), j ≤ nk ∧ jv = .int .i64 j ∧ rv = .slice ra rn rc ∧ StrsAt x (.slice ra rn rc) rl ∧ rl.length = rn ∧ rn ≤ rc ∧ (∀ t ∈ rl, t.size ≤ 1000000) ∧ InR Y ∧ Y.1 = k ∧ BoxC wr x.heap.size 42 (insCs Y) ∧ IntsAt wr (.slice ka nk kc) ks ∧ rdEnd s.toList (rdArgs (ks.drop j) Y (rl.map (·.toList))) = r ∧ Up x wr) (fun _ jv _ => nk - (intOf jv).toNat)
            case atStart => exact ⟨0, X, _, _, _, ws.tail, by omega, rfl, rfl, HTS.out, by rw [List.length_tail, HN.out], Nat.le_refl _, fun t ht => HWS.out t (List.mem_of_mem_tail ht), HIR.out, HXK.out, HBY.out, HIN.out, by rw [List.drop_zero, HTAIL.out]; exact HRX.out, HUY.out⟩
            case round =>
              rename World => wr
              obtain ⟨j, Y, ra, rn, rc, rl, hj, rfl, rfl, hst, hrl, hrc, hsz, hir, hyk, hbx, hint, hrd, hup⟩ := hrel
              have HSTR := Lib.hid hst
              have HRL := Lib.hid hrl
              have HSZ := Lib.hid hsz
              have HIY := Lib.hid hir
              have HYK := Lib.hid hyk
              have HBW := Lib.hid hbx
              have HINT := Lib.hid hint
              have HRD := Lib.hid hrd
              have HUW := Lib.hid hup
              clear hst hrl hsz hir hyk hbx hint hrd hup HRX HIR HXK HTS HBY HIN HUY
              by_cases hlt2 : j < nk
              · have hlt2I : (j : Int) < nk := by omega
                obtain ⟨kd, hkd⟩ : ∃ q, ks.getD j 0 = q := ⟨_, rfl⟩
                obtain ⟨kg, ko, hka, hkl, hkc⟩ := intsAt_get HINT.out rfl j hlt2
                rw [hkd] at hkc
                subst hka
                have hjl : j < ks.length := by rw [HNK.out]; exact hlt2
                have hkj : ks[j] = kd := by rw [← hkd, List.getD_eq_getElem?_getD, List.getElem?_eq_getElem hjl]; rfl
                have HKD : Hid (1 ≤ kd ∧ kd ≤ 17) := Lib.hid (HKIND.out kd (hkj ▸ List.getElem_mem hjl))
                have HR2 : Hid (rdEnd s.toList (if (rl.map (·.toList)).length = 0 then none else rdArgs (ks.drop (j + 1)) (rdOpd Y kd (rl.map (·.toList))) (rl.map (·.toList)).tail) = r) := Lib.hid (by
                  have := HRD.out
                  rw [List.drop_eq_getElem_cons hjl, hkj] at this
                  exact this)
                clear hkd hkj HRD
                by_cases hr0 : rn = 0
                · have HE : Hid (r = (i0, false)) := Lib.hid (by rw [← HR2.out, if_pos (by rw [List.length_map, HRL.out]; exact hr0)]; rfl)
                  subst hr0
                  have HVV := Lib.hid (HUX.out.trans HUW.out)
                  have HBV := Lib.hid (HBR.out.up HUW.out)
                  clear HR2 HBR
                  have bf := HBV.out.frozen
                  obtain ⟨b0, b1, b2, b3, b4, b5, b6, b7, b8, b9, b10⟩ := boxAll HBV.out
                  have s0 := box_zero HBV.out 0 (by decide)
                  have s1 := box_zero HBV.out 1 (by decide)
                  have s2 := box_zero HBV.out 2 (by decide)
                  have s3 := box_zero HBV.out 3 (by decide)
                  have s4 := box_zero HBV.out 4 (by decide)
                  have s5 := box_zero HBV.out 5 (by decide)
                  have s6 := box_zero HBV.out 6 (by decide)
                  have s7 := box_zero HBV.out 7 (by decide)
                  have s8 := box_zero HBV.out 8 (by decide)
                  have s9 := box_zero HBV.out 9 (by decide)
                  have s10 := box_zero HBV.out 10 (by decide)
                  go_wp2
                  refine bodyPost_ret (v := .tuple #[.agg #[.int .i64 0, .int .i64 0, .int .i64 0, .int .i64 0, .int .i64 0, .int .i64 0, .int .i64 0, .int .i64 0, .int .i64 0, .int .i64 0, .int .i64 0], .bool false]) (by simp [results, Tryz.results39, go_sem, *]) rfl ?_
                  exact ⟨by rw [HE.out], HVV.out⟩
                · have hr1 : 0 < rn := by omega
                  have hr1I : (0 : Int) < rn := by omega
                  have hr2I : (1 : Int) ≤ rn := by omega
                  have q0 : ((rn : Int) == 0) = false := by rw [beq_eq_false_iff_ne]; omega
                  have HRO := Lib.hid (fun (v : World) (hv : Up wr v) => isa_readOperand x.heap.size Y kd HKD.out ra rn rc rl v ((HSTR.out.up HUW.out).up hv) HRL.out hr1 (fun q => getD_size HSZ.out q) (HRR.out.up (HUX.out.trans (HUW.out.trans hv))) (HBW.out.up hv))
                  have HR3 : Hid (rdEnd s.toList (rdArgs (ks.drop (j + 1)) (rdOpd Y kd (rl.map (·.toList))) (rl.tail.map (·.toList))) = r) := Lib.hid (by
                    have := HR2.out
                    rw [if_neg (by rw [List.length_map, HRL.out]; exact hr0), ← List.map_tail] at this
                    exact this)
                  have HTL2 := Lib.hid (HSTR.out.tail HRL.out hr1 hrc)
                  have hrcI : (rn : Int) ≤ rc := by omega
                  clear HR2
                  go_wp2_with (go_at_call 66; refine (HRO.out _ (Up.refl _)).mono ?_; rintro e w2 ⟨rfl, hub, hb2⟩; have HUB := Lib.hid hub; have HB2 := Lib.hid hb2; clear hub hb2)
                  go_roundw
                  case rel => exact ⟨j + 1, _, _, _, _, rl.tail, by omega, by go_num, rfl, HTL2.out, by rw [List.length_tail, HRL.out], by omega, fun t ht => HSZ.out t (List.mem_of_mem_tail ht), rdOpd_R HIY.out _ _, (rdOpd_op _ _ _).trans HYK.out, HB2.out, HINT.out.but HUB.out HKB.out, HR3.out, UpBut.up HUW.out (Nat.le_refl _) HUB.out⟩
                  case measure => simp [intOf]; omega
              · obtain rfl : j = nk := by omega
                have HE : Hid (r = (Y, wfB Y && (lineL Y == s.toList))) := Lib.hid (by
                  rw [← HRD.out, List.drop_eq_nil_of_le (by rw [HNK.out]; omega)]; rfl)
                have HVV := Lib.hid (HUX.out.trans HUW.out)
                have HBV := Lib.hid (HBR.out.up HUW.out)
                obtain ⟨wf, hwf⟩ : ∃ q, wfB Y = q := ⟨_, rfl⟩
                obtain ⟨ll, hll⟩ : ∃ q, lineL Y = q := ⟨_, rfl⟩
                have HWF : Hid (∀ v, Up w v → Calls Tryz.prog 30 #[.agg #[.int .i64 Y.1, .int .i64 Y.2.1, .int .i64 Y.2.2.1, .int .i64 Y.2.2.2.1, .int .i64 Y.2.2.2.2.1.1, .int .i64 Y.2.2.2.2.1.2, .int .i64 Y.2.2.2.2.2.1, .int .i64 Y.2.2.2.2.2.2.1, .int .i64 Y.2.2.2.2.2.2.2.1, .int .i64 Y.2.2.2.2.2.2.2.2.1, .int .i64 Y.2.2.2.2.2.2.2.2.2]] v fun e' w' => e' = .returned (.bool wf) ∧ Up v w') := Lib.hid (fun v hv => by rw [← hwf]; exact isa_wellFormed Y HIY.out v (HIT.out.up hv))
                have HLN : Hid (∀ v, Up w v → Calls Tryz.prog 32 #[.agg #[.int .i64 Y.1, .int .i64 Y.2.1, .int .i64 Y.2.2.1, .int .i64 Y.2.2.2.1, .int .i64 Y.2.2.2.2.1.1, .int .i64 Y.2.2.2.2.1.2, .int .i64 Y.2.2.2.2.2.1, .int .i64 Y.2.2.2.2.2.2.1, .int .i64 Y.2.2.2.2.2.2.2.1, .int .i64 Y.2.2.2.2.2.2.2.2.1, .int .i64 Y.2.2.2.2.2.2.2.2.2]] v fun e' w' => e' = .returned (.string (bst ll)) ∧ Up v w') := Lib.hid (fun v hv => by rw [← hll]; exact isa_line Y HIY.out (by rw [HYK.out]; unfold knownB; rw [decide_eq_true_eq]; omega) v (HFT.out.up hv) (HIT.out.up hv) (HWT.out.up hv))
                rw [hwf, hll] at HE
                have qll : ((bst ll).toList == s.toList) = (ll == s.toList) := by rw [bst_list]
                have hxlt : x.heap.size < wr.heap.size := HBW.out.lt
                have HNE : Hid (w.heap.size ≠ x.heap.size) := Lib.hid (by have := HUX.out.size; have := HBR.out.lt; omega)
                obtain ⟨c0, c1, c2, c3, c4, c5, c6, c7, c8, c9, c10⟩ := boxAll HBW.out
                clear hwf hll HRD HSTR HINT HBR
                have HUWR := HVV
                have hlt0 : w.heap.size < wr.heap.size := HBV.out.lt
                have hxne : x.heap.size ≠ w.heap.size := Ne.symm HNE.out
                have UPW : ∀ v, Rr w.heap.size (.cells (insCs Y) 42 (0, 0)) wr v → Up w v := fun v hv => UpBut.up HUWR.out (Nat.le_refl _) hv.1
                have HUPW := Lib.hid UPW
                have HST : Hid (∀ v, Rr w.heap.size (.cells (insCs Y) 42 (0, 0)) wr v → ∃ u, BoxC v w.heap.size 42 (insCs u)) := Lib.hid (fun v hv => by
                  rcases hv.2 with e | e
                  · exact ⟨i0, e.trans HBV.out⟩
                  · exact ⟨Y, e⟩)
                clear UPW HBV
                go_upto_region 18 with fail
                refine wp_region_mk_all_r (g := w.heap.size) (C := .cells (insCs Y) 42 (0, 0)) (fun f _ v _ => (f = 30 → v = .bool wf) ∧ (f = 32 → v = .string (bst ll))) (by kernel_rfl) (by kernel_rfl) ?_
                iterate 2 (refine wpMk_quiet_r anti_post_r (by kernel_rfl) ?_; go_big_quiet_step (fail); refine wpQuiet_nil ?_)
                refine wpMk_enter_r anti_post_r 30 #[.agg #[.int .i64 Y.1, .int .i64 Y.2.1, .int .i64 Y.2.2.1, .int .i64 Y.2.2.2.1, .int .i64 Y.2.2.2.2.1.1, .int .i64 Y.2.2.2.2.1.2, .int .i64 Y.2.2.2.2.2.1, .int .i64 Y.2.2.2.2.2.2.1, .int .i64 Y.2.2.2.2.2.2.2.1, .int .i64 Y.2.2.2.2.2.2.2.2.1, .int .i64 Y.2.2.2.2.2.2.2.2.2]] (fun v x y h hu => h) (by kernel_rfl) (fun x => by go_simp) (fun q hq => (HWF.out _ (HUPW.out _ hq)).mono fun e z ⟨h1, h2⟩ => ⟨_, h1, Up.rr h2 _ _ (hq.lt hlt0), fun _ => rfl, fun h => absurd h (by decide)⟩) ?_
                rintro v ⟨q0, hq0, hv0, -⟩
                obtain rfl := hv0 rfl
                clear hq0 hv0
                simp only [Act.put, List.setIfInBounds_toArray, List.set_cons_succ, List.set_cons_zero]
                refine wpMk_quiet_r anti_post_r (by kernel_rfl) ?_; go_big_quiet_step (fail); refine wpQuiet_nil ?_
                cases wf
                · iterate 4 (refine wpMk_unwanted_r anti_post_r (by kernel_rfl) ?_)
                  simp only [Act.put, List.setIfInBounds_toArray, List.set_cons_succ, List.set_cons_zero]
                  refine wpMk_quiet_r anti_post_r (by kernel_rfl) ?_; go_big_quiet_step (fail); refine wpQuiet_nil ?_
                  refine wpMk_store_r anti_post_r (by kernel_rfl) (fun q hq => by
                    obtain ⟨u, hu⟩ := HST.out q hq
                    have uf := hu.frozen
                    obtain ⟨u0, u1, u2, u3, u4, u5, u6, u7, u8, u9, u10⟩ := boxAll hu
                    exact ⟨(((((((((((q.setCell ⟨w.heap.size, 0, none⟩ (.int .i64 Y.1)).setCell ⟨w.heap.size, 1, none⟩ (.int .i64 Y.2.1)).setCell ⟨w.heap.size, 2, none⟩ (.int .i64 Y.2.2.1)).setCell ⟨w.heap.size, 3, none⟩ (.int .i64 Y.2.2.2.1)).setCell ⟨w.heap.size, 4, none⟩ (.int .i64 Y.2.2.2.2.1.1)).setCell ⟨w.heap.size, 5, none⟩ (.int .i64 Y.2.2.2.2.1.2)).setCell ⟨w.heap.size, 6, none⟩ (.int .i64 Y.2.2.2.2.2.1)).setCell ⟨w.heap.size, 7, none⟩ (.int .i64 Y.2.2.2.2.2.2.1)).setCell ⟨w.heap.size, 8, none⟩ (.int .i64 Y.2.2.2.2.2.2.2.1)).setCell ⟨w.heap.size, 9, none⟩ (.int .i64 Y.2.2.2.2.2.2.2.2.1)).setCell ⟨w.heap.size, 10, none⟩ (.int .i64 Y.2.2.2.2.2.2.2.2.2)), by go_simp, ((((((((((((UpBut.refl _ _).setCell 0 none _).setCell 1 none _).setCell 2 none _).setCell 3 none _).setCell 4 none _).setCell 5 none _).setCell 6 none _).setCell 7 none _).setCell 8 none _).setCell 9 none _).setCell 10 none _), box11 hu⟩) ?_
                  simp only [Act.put, List.setIfInBounds_toArray, List.set_cons_succ, List.set_cons_zero]
                  refine wpMk_quiet_r anti_post_r (by kernel_rfl) ?_; go_big_quiet_step (fail); refine wpQuiet_nil ?_
                  refine wpMk_nil_r ?_
                  rintro q hq ⟨-, hC⟩
                  have HRZ : Hid (BoxC q w.heap.size 42 (insCs Y)) := Lib.hid hC
                  have HUQ := Lib.hid (HUPW.out q hq)
                  clear hC hq
                  have rf := HRZ.out.frozen
                  obtain ⟨r0, r1, r2, r3, r4, r5, r6, r7, r8, r9, r10⟩ := boxAll HRZ.out
                  go_wp2
                  refine bodyPost_ret (v := .tuple #[insV Y, .bool false]) (by simp [results, Tryz.results39, go_sem, *]) rfl ?_
                  exact ⟨by rw [HE.out]; rfl, HUQ.out⟩
                · refine wpMk_quiet_r anti_post_r (by kernel_rfl) ?_; go_big_quiet_step (fail); refine wpQuiet_nil ?_
                  refine wpMk_enter_r anti_post_r 32 #[.agg #[.int .i64 Y.1, .int .i64 Y.2.1, .int .i64 Y.2.2.1, .int .i64 Y.2.2.2.1, .int .i64 Y.2.2.2.2.1.1, .int .i64 Y.2.2.2.2.1.2, .int .i64 Y.2.2.2.2.2.1, .int .i64 Y.2.2.2.2.2.2.1, .int .i64 Y.2.2.2.2.2.2.2.1, .int .i64 Y.2.2.2.2.2.2.2.2.1, .int .i64 Y.2.2.2.2.2.2.2.2.2]] (fun v x y h hu => h) (by kernel_rfl) (fun x => by go_simp) (fun q hq => (HLN.out _ (HUPW.out _ hq)).mono fun e z ⟨h1, h2⟩ => ⟨_, h1, Up.rr h2 _ _ (hq.lt hlt0), fun h => absurd h (by decide), fun _ => rfl⟩) ?_
                  rintro v ⟨q0, hq0, -, hv0⟩
                  obtain rfl := hv0 rfl
                  clear hq0 hv0
                  simp only [Act.put, List.setIfInBounds_toArray, List.set_cons_succ, List.set_cons_zero]
                  iterate 3 (refine wpMk_quiet_r anti_post_r (by kernel_rfl) ?_; go_big_quiet_step (fail); refine wpQuiet_nil ?_)
                  refine wpMk_store_r anti_post_r (by kernel_rfl) (fun q hq => by
                    obtain ⟨u, hu⟩ := HST.out q hq
                    have uf := hu.frozen
                    obtain ⟨u0, u1, u2, u3, u4, u5, u6, u7, u8, u9, u10⟩ := boxAll hu
                    exact ⟨(((((((((((q.setCell ⟨w.heap.size, 0, none⟩ (.int .i64 Y.1)).setCell ⟨w.heap.size, 1, none⟩ (.int .i64 Y.2.1)).setCell ⟨w.heap.size, 2, none⟩ (.int .i64 Y.2.2.1)).setCell ⟨w.heap.size, 3, none⟩ (.int .i64 Y.2.2.2.1)).setCell ⟨w.heap.size, 4, none⟩ (.int .i64 Y.2.2.2.2.1.1)).setCell ⟨w.heap.size, 5, none⟩ (.int .i64 Y.2.2.2.2.1.2)).setCell ⟨w.heap.size, 6, none⟩ (.int .i64 Y.2.2.2.2.2.1)).setCell ⟨w.heap.size, 7, none⟩ (.int .i64 Y.2.2.2.2.2.2.1)).setCell ⟨w.heap.size, 8, none⟩ (.int .i64 Y.2.2.2.2.2.2.2.1)).setCell ⟨w.heap.size, 9, none⟩ (.int .i64 Y.2.2.2.2.2.2.2.2.1)).setCell ⟨w.heap.size, 10, none⟩ (.int .i64 Y.2.2.2.2.2.2.2.2.2)), by go_simp, ((((((((((((UpBut.refl _ _).setCell 0 none _).setCell 1 none _).setCell 2 none _).setCell 3 none _).setCell 4 none _).setCell 5 none _).setCell 6 none _).setCell 7 none _).setCell 8 none _).setCell 9 none _).setCell 10 none _), box11 hu⟩) ?_
                  simp only [Act.put, List.setIfInBounds_toArray, List.set_cons_succ, List.set_cons_zero]
                  refine wpMk_quiet_r anti_post_r (by kernel_rfl) ?_; go_big_quiet_step (fail); refine wpQuiet_nil ?_
                  refine wpMk_nil_r ?_
                  rintro q hq ⟨-, hC⟩
                  have HRZ : Hid (BoxC q w.heap.size 42 (insCs Y)) := Lib.hid hC
                  have HUQ := Lib.hid (HUPW.out q hq)
                  clear hC hq
                  have rf := HRZ.out.frozen
                  obtain ⟨r0, r1, r2, r3, r4, r5, r6, r7, r8, r9, r10⟩ := boxAll HRZ.out
                  go_wp2
                  refine bodyPost_ret (v := .tuple #[insV Y, .bool (ll == s.toList)]) (by simp [results, Tryz.results39, go_sem, *]) rfl ?_
                  exact ⟨by rw [HE.out]; rfl, HUQ.out⟩
        · have q12 : ((k : Int) == 12) = false := by rw [beq_eq_false_iff_ne]; omega
          have HXC : Hid (insCs X = #[.int .i64 k, .int .i64 0, .int .i64 0, .int .i64 0, .int .i64 0, .int .i64 0, .int .i64 0, .int .i64 0, .int .i64 0, .int .i64 0, .int .i64 0]) := Lib.hid (by rw [← hX]; unfold rdStart insCs; rw [if_neg (fun h => h12 h.1)])
          clear h12 hX HW1
          by_cases hn1 : ¬ 1 < n
          · have hn1I : ¬ (1 : Int) < n := by omega
            have HTS : Hid (StrsAt x (.slice (some ⟨g2, o2, none⟩) (n - 1) (n - 1)) ws.tail) := Lib.hid (by have := HTS.out; rw [if_pos (by omega)] at this; exact this)
            go_upto_region 9 with fail
            refine wp_gen (F := fun u => Up x u ∧ BoxC u x.heap.size 42 (insCs X)) ⟨(Up.refl x).alloc _, by rw [HXC.out]; exact BoxC.new x _ _⟩ ?_
            rintro u ⟨hu, hb⟩
            have HU := Lib.hid hu
            have HB := Lib.hid hb
            clear hu hb HXC
            obtain ⟨ks, hks⟩ : ∃ ks, opsF X = ks := ⟨_, rfl⟩
            have HKIND : Hid (∀ t ∈ ks, 1 ≤ t ∧ t ≤ 17) := Lib.hid (by rw [← hks]; exact opsF_kinds X (by rw [HXK.out]; omega))
            have hol : ks.length ≤ 5 := by rw [← hks]; exact opsF_len X
            obtain ⟨nk, hnk⟩ : ∃ q, ks.length = q := ⟨_, rfl⟩
            have HNK := Lib.hid hnk
            have HOP : Hid (∀ y, Up w y → Calls Tryz.prog 51 #[.agg #[.int .i64 X.1, .int .i64 X.2.1, .int .i64 X.2.2.1, .int .i64 X.2.2.2.1, .int .i64 X.2.2.2.2.1.1, .int .i64 X.2.2.2.2.1.2, .int .i64 X.2.2.2.2.2.1, .int .i64 X.2.2.2.2.2.2.1, .int .i64 X.2.2.2.2.2.2.2.1, .int .i64 X.2.2.2.2.2.2.2.2.1, .int .i64 X.2.2.2.2.2.2.2.2.2]] y fun e' w' => ∃ v, e' = .returned v ∧ Up y w' ∧ w'.ownsRow y.heap.size 3 1 v nk (intV ks)) := Lib.hid (fun y hy => by
              have := isa_operands X (by rw [HXK.out]; unfold knownB; rw [decide_eq_true_eq]; omega) y (HIT.out.up hy)
              rw [hks, hnk] at this
              exact this)
            rw [hks] at HRX
            rw [hnk] at hol
            have holI : (nk : Int) ≤ 5 := by omega
            clear hks hnk
            obtain ⟨b0, b1, b2, b3, b4, b5, b6, b7, b8, b9, b10⟩ := boxAll HB.out
            go_wp2_with (go_at_call 51; refine (HOP.out _ (HUX.out.trans HU.out)).mono ?_; rintro e y ⟨v, rfl, hy, hv⟩; obtain ⟨ka, kc, rfl⟩ := own_slice hv; have HY := Lib.hid hy; have HVV := Lib.hid hv; clear hy hv)
            clear HOP b0 b1 b2 b3 b4 b5 b6 b7 b8 b9 b10
            have HIN : Hid (IntsAt y (.slice ka nk kc) ks) := Lib.hid (IntsAt.own HVV.out HNK.out (by omega))
            have HKB : Hid (∀ b, blk (.slice ka nk kc) = some b → b ≠ x.heap.size) := Lib.hid (fun b hb => by
              have h1 := HB.out.lt
              rcases HVV.out.2 with ⟨e, _⟩ | ⟨g', cap, cur, e, hbb, hg', _⟩
              · rw [e] at hb; cases hb
              · rw [e] at hb
                have : g' = b := by simpa [blk] using hb
                omega)
            have HBY := Lib.hid (HB.out.up HY.out)
            have HUY := Lib.hid (HU.out.trans HY.out)
            clear HVV HB HU HY
            go_loopw [7, 43] (fun rv jv wr => ∃ (j : Nat) (Y : Ins) (ra : Option Addr) (rn rc : Nat) (rl : List ByteArray), j ≤ nk ∧ jv = .int .i64 j ∧ rv = .slice ra rn rc ∧ StrsAt x (.slice ra rn rc) rl ∧ rl.length = rn ∧ rn ≤ rc ∧ (∀ t ∈ rl, t.size ≤ 1000000) ∧ InR Y ∧ Y.1 = k ∧ BoxC wr x.heap.size 42 (insCs Y) ∧ IntsAt wr (.slice ka nk kc) ks ∧ rdEnd s.toList (rdArgs (ks.drop j) Y (rl.map (·.toList))) = r ∧ Up x wr) (fun _ jv _ => nk - (intOf jv).toNat)
            case atStart => exact ⟨0, X, _, _, _, ws.tail, by omega, rfl, rfl, HTS.out, by rw [List.length_tail, HN.out], Nat.le_refl _, fun t ht => HWS.out t (List.mem_of_mem_tail ht), HIR.out, HXK.out, HBY.out, HIN.out, by rw [List.drop_zero, HTAIL.out]; exact HRX.out, HUY.out⟩
            case round =>
              rename World => wr
              obtain ⟨j, Y, ra, rn, rc, rl, hj, rfl, rfl, hst, hrl, hrc, hsz, hir, hyk, hbx, hint, hrd, hup⟩ := hrel
              have HSTR := Lib.hid hst
              have HRL := Lib.hid hrl
              have HSZ := Lib.hid hsz
              have HIY := Lib.hid hir
              have HYK := Lib.hid hyk
              have HBW := Lib.hid hbx
              have HINT := Lib.hid hint
              have HRD := Lib.hid hrd
              have HUW := Lib.hid hup
              clear hst hrl hsz hir hyk hbx hint hrd hup HRX HIR HXK HTS HBY HIN HUY
              by_cases hlt2 : j < nk
              · have hlt2I : (j : Int) < nk := by omega
                obtain ⟨kd, hkd⟩ : ∃ q, ks.getD j 0 = q := ⟨_, rfl⟩
                obtain ⟨kg, ko, hka, hkl, hkc⟩ := intsAt_get HINT.out rfl j hlt2
                rw [hkd] at hkc
                subst hka
                have hjl : j < ks.length := by rw [HNK.out]; exact hlt2
                have hkj : ks[j] = kd := by rw [← hkd, List.getD_eq_getElem?_getD, List.getElem?_eq_getElem hjl]; rfl
                have HKD : Hid (1 ≤ kd ∧ kd ≤ 17) := Lib.hid (HKIND.out kd (hkj ▸ List.getElem_mem hjl))
                have HR2 : Hid (rdEnd s.toList (if (rl.map (·.toList)).length = 0 then none else rdArgs (ks.drop (j + 1)) (rdOpd Y kd (rl.map (·.toList))) (rl.map (·.toList)).tail) = r) := Lib.hid (by
                  have := HRD.out
                  rw [List.drop_eq_getElem_cons hjl, hkj] at this
                  exact this)
                clear hkd hkj HRD
                by_cases hr0 : rn = 0
                · have HE : Hid (r = (i0, false)) := Lib.hid (by rw [← HR2.out, if_pos (by rw [List.length_map, HRL.out]; exact hr0)]; rfl)
                  subst hr0
                  have HVV := Lib.hid (HUX.out.trans HUW.out)
                  have HBV := Lib.hid (HBR.out.up HUW.out)
                  clear HR2 HBR
                  have bf := HBV.out.frozen
                  obtain ⟨b0, b1, b2, b3, b4, b5, b6, b7, b8, b9, b10⟩ := boxAll HBV.out
                  have s0 := box_zero HBV.out 0 (by decide)
                  have s1 := box_zero HBV.out 1 (by decide)
                  have s2 := box_zero HBV.out 2 (by decide)
                  have s3 := box_zero HBV.out 3 (by decide)
                  have s4 := box_zero HBV.out 4 (by decide)
                  have s5 := box_zero HBV.out 5 (by decide)
                  have s6 := box_zero HBV.out 6 (by decide)
                  have s7 := box_zero HBV.out 7 (by decide)
                  have s8 := box_zero HBV.out 8 (by decide)
                  have s9 := box_zero HBV.out 9 (by decide)
                  have s10 := box_zero HBV.out 10 (by decide)
                  go_wp2
                  refine bodyPost_ret (v := .tuple #[.agg #[.int .i64 0, .int .i64 0, .int .i64 0, .int .i64 0, .int .i64 0, .int .i64 0, .int .i64 0, .int .i64 0, .int .i64 0, .int .i64 0, .int .i64 0], .bool false]) (by simp [results, Tryz.results39, go_sem, *]) rfl ?_
                  exact ⟨by rw [HE.out], HVV.out⟩
                · have hr1 : 0 < rn := by omega
                  have hr1I : (0 : Int) < rn := by omega
                  have hr2I : (1 : Int) ≤ rn := by omega
                  have q0 : ((rn : Int) == 0) = false := by rw [beq_eq_false_iff_ne]; omega
                  have HRO := Lib.hid (fun (v : World) (hv : Up wr v) => isa_readOperand x.heap.size Y kd HKD.out ra rn rc rl v ((HSTR.out.up HUW.out).up hv) HRL.out hr1 (fun q => getD_size HSZ.out q) (HRR.out.up (HUX.out.trans (HUW.out.trans hv))) (HBW.out.up hv))
                  have HR3 : Hid (rdEnd s.toList (rdArgs (ks.drop (j + 1)) (rdOpd Y kd (rl.map (·.toList))) (rl.tail.map (·.toList))) = r) := Lib.hid (by
                    have := HR2.out
                    rw [if_neg (by rw [List.length_map, HRL.out]; exact hr0), ← List.map_tail] at this
                    exact this)
                  have HTL2 := Lib.hid (HSTR.out.tail HRL.out hr1 hrc)
                  have hrcI : (rn : Int) ≤ rc := by omega
                  clear HR2
                  go_wp2_with (go_at_call 66; refine (HRO.out _ (Up.refl _)).mono ?_; rintro e w2 ⟨rfl, hub, hb2⟩; have HUB := Lib.hid hub; have HB2 := Lib.hid hb2; clear hub hb2)
                  go_roundw
                  case rel => exact ⟨j + 1, _, _, _, _, rl.tail, by omega, by go_num, rfl, HTL2.out, by rw [List.length_tail, HRL.out], by omega, fun t ht => HSZ.out t (List.mem_of_mem_tail ht), rdOpd_R HIY.out _ _, (rdOpd_op _ _ _).trans HYK.out, HB2.out, HINT.out.but HUB.out HKB.out, HR3.out, UpBut.up HUW.out (Nat.le_refl _) HUB.out⟩
                  case measure => simp [intOf]; omega
              · obtain rfl : j = nk := by omega
                have HE : Hid (r = (Y, wfB Y && (lineL Y == s.toList))) := Lib.hid (by
                  rw [← HRD.out, List.drop_eq_nil_of_le (by rw [HNK.out]; omega)]; rfl)
                have HVV := Lib.hid (HUX.out.trans HUW.out)
                have HBV := Lib.hid (HBR.out.up HUW.out)
                obtain ⟨wf, hwf⟩ : ∃ q, wfB Y = q := ⟨_, rfl⟩
                obtain ⟨ll, hll⟩ : ∃ q, lineL Y = q := ⟨_, rfl⟩
                have HWF : Hid (∀ v, Up w v → Calls Tryz.prog 30 #[.agg #[.int .i64 Y.1, .int .i64 Y.2.1, .int .i64 Y.2.2.1, .int .i64 Y.2.2.2.1, .int .i64 Y.2.2.2.2.1.1, .int .i64 Y.2.2.2.2.1.2, .int .i64 Y.2.2.2.2.2.1, .int .i64 Y.2.2.2.2.2.2.1, .int .i64 Y.2.2.2.2.2.2.2.1, .int .i64 Y.2.2.2.2.2.2.2.2.1, .int .i64 Y.2.2.2.2.2.2.2.2.2]] v fun e' w' => e' = .returned (.bool wf) ∧ Up v w') := Lib.hid (fun v hv => by rw [← hwf]; exact isa_wellFormed Y HIY.out v (HIT.out.up hv))
                have HLN : Hid (∀ v, Up w v → Calls Tryz.prog 32 #[.agg #[.int .i64 Y.1, .int .i64 Y.2.1, .int .i64 Y.2.2.1, .int .i64 Y.2.2.2.1, .int .i64 Y.2.2.2.2.1.1, .int .i64 Y.2.2.2.2.1.2, .int .i64 Y.2.2.2.2.2.1, .int .i64 Y.2.2.2.2.2.2.1, .int .i64 Y.2.2.2.2.2.2.2.1, .int .i64 Y.2.2.2.2.2.2.2.2.1, .int .i64 Y.2.2.2.2.2.2.2.2.2]] v fun e' w' => e' = .returned (.string (bst ll)) ∧ Up v w') := Lib.hid (fun v hv => by rw [← hll]; exact isa_line Y HIY.out (by rw [HYK.out]; unfold knownB; rw [decide_eq_true_eq]; omega) v (HFT.out.up hv) (HIT.out.up hv) (HWT.out.up hv))
                rw [hwf, hll] at HE
                have qll : ((bst ll).toList == s.toList) = (ll == s.toList) := by rw [bst_list]
                have hxlt : x.heap.size < wr.heap.size := HBW.out.lt
                have HNE : Hid (w.heap.size ≠ x.heap.size) := Lib.hid (by have := HUX.out.size; have := HBR.out.lt; omega)
                obtain ⟨c0, c1, c2, c3, c4, c5, c6, c7, c8, c9, c10⟩ := boxAll HBW.out
                clear hwf hll HRD HSTR HINT HBR
                have HUWR := HVV
                have hlt0 : w.heap.size < wr.heap.size := HBV.out.lt
                have hxne : x.heap.size ≠ w.heap.size := Ne.symm HNE.out
                have UPW : ∀ v, Rr w.heap.size (.cells (insCs Y) 42 (0, 0)) wr v → Up w v := fun v hv => UpBut.up HUWR.out (Nat.le_refl _) hv.1
                have HUPW := Lib.hid UPW
                have HST : Hid (∀ v, Rr w.heap.size (.cells (insCs Y) 42 (0, 0)) wr v → ∃ u, BoxC v w.heap.size 42 (insCs u)) := Lib.hid (fun v hv => by
                  rcases hv.2 with e | e
                  · exact ⟨i0, e.trans HBV.out⟩
                  · exact ⟨Y, e⟩)
                clear UPW HBV
                go_upto_region 18 with fail
                refine wp_region_mk_all_r (g := w.heap.size) (C := .cells (insCs Y) 42 (0, 0)) (fun f _ v _ => (f = 30 → v = .bool wf) ∧ (f = 32 → v = .string (bst ll))) (by kernel_rfl) (by kernel_rfl) ?_
                iterate 2 (refine wpMk_quiet_r anti_post_r (by kernel_rfl) ?_; go_big_quiet_step (fail); refine wpQuiet_nil ?_)
                refine wpMk_enter_r anti_post_r 30 #[.agg #[.int .i64 Y.1, .int .i64 Y.2.1, .int .i64 Y.2.2.1, .int .i64 Y.2.2.2.1, .int .i64 Y.2.2.2.2.1.1, .int .i64 Y.2.2.2.2.1.2, .int .i64 Y.2.2.2.2.2.1, .int .i64 Y.2.2.2.2.2.2.1, .int .i64 Y.2.2.2.2.2.2.2.1, .int .i64 Y.2.2.2.2.2.2.2.2.1, .int .i64 Y.2.2.2.2.2.2.2.2.2]] (fun v x y h hu => h) (by kernel_rfl) (fun x => by go_simp) (fun q hq => (HWF.out _ (HUPW.out _ hq)).mono fun e z ⟨h1, h2⟩ => ⟨_, h1, Up.rr h2 _ _ (hq.lt hlt0), fun _ => rfl, fun h => absurd h (by decide)⟩) ?_
                rintro v ⟨q0, hq0, hv0, -⟩
                obtain rfl := hv0 rfl
                clear hq0 hv0
                simp only [Act.put, List.setIfInBounds_toArray, List.set_cons_succ, List.set_cons_zero]
                refine wpMk_quiet_r anti_post_r (by kernel_rfl) ?_; go_big_quiet_step (fail); refine wpQuiet_nil ?_
                cases wf
                · iterate 4 (refine wpMk_unwanted_r anti_post_r (by kernel_rfl) ?_)
                  simp only [Act.put, List.setIfInBounds_toArray, List.set_cons_succ, List.set_cons_zero]
                  refine wpMk_quiet_r anti_post_r (by kernel_rfl) ?_; go_big_quiet_step (fail); refine wpQuiet_nil ?_
                  refine wpMk_store_r anti_post_r (by kernel_rfl) (fun q hq => by
                    obtain ⟨u, hu⟩ := HST.out q hq
                    have uf := hu.frozen
                    obtain ⟨u0, u1, u2, u3, u4, u5, u6, u7, u8, u9, u10⟩ := boxAll hu
                    exact ⟨(((((((((((q.setCell ⟨w.heap.size, 0, none⟩ (.int .i64 Y.1)).setCell ⟨w.heap.size, 1, none⟩ (.int .i64 Y.2.1)).setCell ⟨w.heap.size, 2, none⟩ (.int .i64 Y.2.2.1)).setCell ⟨w.heap.size, 3, none⟩ (.int .i64 Y.2.2.2.1)).setCell ⟨w.heap.size, 4, none⟩ (.int .i64 Y.2.2.2.2.1.1)).setCell ⟨w.heap.size, 5, none⟩ (.int .i64 Y.2.2.2.2.1.2)).setCell ⟨w.heap.size, 6, none⟩ (.int .i64 Y.2.2.2.2.2.1)).setCell ⟨w.heap.size, 7, none⟩ (.int .i64 Y.2.2.2.2.2.2.1)).setCell ⟨w.heap.size, 8, none⟩ (.int .i64 Y.2.2.2.2.2.2.2.1)).setCell ⟨w.heap.size, 9, none⟩ (.int .i64 Y.2.2.2.2.2.2.2.2.1)).setCell ⟨w.heap.size, 10, none⟩ (.int .i64 Y.2.2.2.2.2.2.2.2.2)), by go_simp, ((((((((((((UpBut.refl _ _).setCell 0 none _).setCell 1 none _).setCell 2 none _).setCell 3 none _).setCell 4 none _).setCell 5 none _).setCell 6 none _).setCell 7 none _).setCell 8 none _).setCell 9 none _).setCell 10 none _), box11 hu⟩) ?_
                  simp only [Act.put, List.setIfInBounds_toArray, List.set_cons_succ, List.set_cons_zero]
                  refine wpMk_quiet_r anti_post_r (by kernel_rfl) ?_; go_big_quiet_step (fail); refine wpQuiet_nil ?_
                  refine wpMk_nil_r ?_
                  rintro q hq ⟨-, hC⟩
                  have HRZ : Hid (BoxC q w.heap.size 42 (insCs Y)) := Lib.hid hC
                  have HUQ := Lib.hid (HUPW.out q hq)
                  clear hC hq
                  have rf := HRZ.out.frozen
                  obtain ⟨r0, r1, r2, r3, r4, r5, r6, r7, r8, r9, r10⟩ := boxAll HRZ.out
                  go_wp2
                  refine bodyPost_ret (v := .tuple #[insV Y, .bool false]) (by simp [results, Tryz.results39, go_sem, *]) rfl ?_
                  exact ⟨by rw [HE.out]; rfl, HUQ.out⟩
                · refine wpMk_quiet_r anti_post_r (by kernel_rfl) ?_; go_big_quiet_step (fail); refine wpQuiet_nil ?_
                  refine wpMk_enter_r anti_post_r 32 #[.agg #[.int .i64 Y.1, .int .i64 Y.2.1, .int .i64 Y.2.2.1, .int .i64 Y.2.2.2.1, .int .i64 Y.2.2.2.2.1.1, .int .i64 Y.2.2.2.2.1.2, .int .i64 Y.2.2.2.2.2.1, .int .i64 Y.2.2.2.2.2.2.1, .int .i64 Y.2.2.2.2.2.2.2.1, .int .i64 Y.2.2.2.2.2.2.2.2.1, .int .i64 Y.2.2.2.2.2.2.2.2.2]] (fun v x y h hu => h) (by kernel_rfl) (fun x => by go_simp) (fun q hq => (HLN.out _ (HUPW.out _ hq)).mono fun e z ⟨h1, h2⟩ => ⟨_, h1, Up.rr h2 _ _ (hq.lt hlt0), fun h => absurd h (by decide), fun _ => rfl⟩) ?_
                  rintro v ⟨q0, hq0, -, hv0⟩
                  obtain rfl := hv0 rfl
                  clear hq0 hv0
                  simp only [Act.put, List.setIfInBounds_toArray, List.set_cons_succ, List.set_cons_zero]
                  iterate 3 (refine wpMk_quiet_r anti_post_r (by kernel_rfl) ?_; go_big_quiet_step (fail); refine wpQuiet_nil ?_)
                  refine wpMk_store_r anti_post_r (by kernel_rfl) (fun q hq => by
                    obtain ⟨u, hu⟩ := HST.out q hq
                    have uf := hu.frozen
                    obtain ⟨u0, u1, u2, u3, u4, u5, u6, u7, u8, u9, u10⟩ := boxAll hu
                    exact ⟨(((((((((((q.setCell ⟨w.heap.size, 0, none⟩ (.int .i64 Y.1)).setCell ⟨w.heap.size, 1, none⟩ (.int .i64 Y.2.1)).setCell ⟨w.heap.size, 2, none⟩ (.int .i64 Y.2.2.1)).setCell ⟨w.heap.size, 3, none⟩ (.int .i64 Y.2.2.2.1)).setCell ⟨w.heap.size, 4, none⟩ (.int .i64 Y.2.2.2.2.1.1)).setCell ⟨w.heap.size, 5, none⟩ (.int .i64 Y.2.2.2.2.1.2)).setCell ⟨w.heap.size, 6, none⟩ (.int .i64 Y.2.2.2.2.2.1)).setCell ⟨w.heap.size, 7, none⟩ (.int .i64 Y.2.2.2.2.2.2.1)).setCell ⟨w.heap.size, 8, none⟩ (.int .i64 Y.2.2.2.2.2.2.2.1)).setCell ⟨w.heap.size, 9, none⟩ (.int .i64 Y.2.2.2.2.2.2.2.2.1)).setCell ⟨w.heap.size, 10, none⟩ (.int .i64 Y.2.2.2.2.2.2.2.2.2)), by go_simp, ((((((((((((UpBut.refl _ _).setCell 0 none _).setCell 1 none _).setCell 2 none _).setCell 3 none _).setCell 4 none _).setCell 5 none _).setCell 6 none _).setCell 7 none _).setCell 8 none _).setCell 9 none _).setCell 10 none _), box11 hu⟩) ?_
                  simp only [Act.put, List.setIfInBounds_toArray, List.set_cons_succ, List.set_cons_zero]
                  refine wpMk_quiet_r anti_post_r (by kernel_rfl) ?_; go_big_quiet_step (fail); refine wpQuiet_nil ?_
                  refine wpMk_nil_r ?_
                  rintro q hq ⟨-, hC⟩
                  have HRZ : Hid (BoxC q w.heap.size 42 (insCs Y)) := Lib.hid hC
                  have HUQ := Lib.hid (HUPW.out q hq)
                  clear hC hq
                  have rf := HRZ.out.frozen
                  obtain ⟨r0, r1, r2, r3, r4, r5, r6, r7, r8, r9, r10⟩ := boxAll HRZ.out
                  go_wp2
                  refine bodyPost_ret (v := .tuple #[insV Y, .bool (ll == s.toList)]) (by simp [results, Tryz.results39, go_sem, *]) rfl ?_
                  exact ⟨by rw [HE.out]; rfl, HUQ.out⟩
          · have HTS : Hid (StrsAt x (.slice (some ⟨g2, o2 + 1, none⟩) (n - 1) (n - 1)) ws.tail) := Lib.hid (by have := HTS.out; rw [if_neg (by omega)] at this; exact this)
            have hn1I : (1 : Int) < n := by omega
            go_upto_region 9 with fail
            refine wp_gen (F := fun u => Up x u ∧ BoxC u x.heap.size 42 (insCs X)) ⟨(Up.refl x).alloc _, by rw [HXC.out]; exact BoxC.new x _ _⟩ ?_
            rintro u ⟨hu, hb⟩
            have HU := Lib.hid hu
            have HB := Lib.hid hb
            clear hu hb HXC
            obtain ⟨ks, hks⟩ : ∃ ks, opsF X = ks := ⟨_, rfl⟩
            have HKIND : Hid (∀ t ∈ ks, 1 ≤ t ∧ t ≤ 17) := Lib.hid (by rw [← hks]; exact opsF_kinds X (by rw [HXK.out]; omega))
            have hol : ks.length ≤ 5 := by rw [← hks]; exact opsF_len X
            obtain ⟨nk, hnk⟩ : ∃ q, ks.length = q := ⟨_, rfl⟩
            have HNK := Lib.hid hnk
            have HOP : Hid (∀ y, Up w y → Calls Tryz.prog 51 #[.agg #[.int .i64 X.1, .int .i64 X.2.1, .int .i64 X.2.2.1, .int .i64 X.2.2.2.1, .int .i64 X.2.2.2.2.1.1, .int .i64 X.2.2.2.2.1.2, .int .i64 X.2.2.2.2.2.1, .int .i64 X.2.2.2.2.2.2.1, .int .i64 X.2.2.2.2.2.2.2.1, .int .i64 X.2.2.2.2.2.2.2.2.1, .int .i64 X.2.2.2.2.2.2.2.2.2]] y fun e' w' => ∃ v, e' = .returned v ∧ Up y w' ∧ w'.ownsRow y.heap.size 3 1 v nk (intV ks)) := Lib.hid (fun y hy => by
              have := isa_operands X (by rw [HXK.out]; unfold knownB; rw [decide_eq_true_eq]; omega) y (HIT.out.up hy)
              rw [hks, hnk] at this
              exact this)
            rw [hks] at HRX
            rw [hnk] at hol
            have holI : (nk : Int) ≤ 5 := by omega
            clear hks hnk
            obtain ⟨b0, b1, b2, b3, b4, b5, b6, b7, b8, b9, b10⟩ := boxAll HB.out
            go_wp2_with (go_at_call 51; refine (HOP.out _ (HUX.out.trans HU.out)).mono ?_; rintro e y ⟨v, rfl, hy, hv⟩; obtain ⟨ka, kc, rfl⟩ := own_slice hv; have HY := Lib.hid hy; have HVV := Lib.hid hv; clear hy hv)
            clear HOP b0 b1 b2 b3 b4 b5 b6 b7 b8 b9 b10
            have HIN : Hid (IntsAt y (.slice ka nk kc) ks) := Lib.hid (IntsAt.own HVV.out HNK.out (by omega))
            have HKB : Hid (∀ b, blk (.slice ka nk kc) = some b → b ≠ x.heap.size) := Lib.hid (fun b hb => by
              have h1 := HB.out.lt
              rcases HVV.out.2 with ⟨e, _⟩ | ⟨g', cap, cur, e, hbb, hg', _⟩
              · rw [e] at hb; cases hb
              · rw [e] at hb
                have : g' = b := by simpa [blk] using hb
                omega)
            have HBY := Lib.hid (HB.out.up HY.out)
            have HUY := Lib.hid (HU.out.trans HY.out)
            clear HVV HB HU HY
            go_loopw [7, 43] (fun rv jv wr => ∃ (j : Nat) (Y : Ins) (ra : Option Addr) (rn rc : Nat) (rl : List ByteArray), j ≤ nk ∧ jv = .int .i64 j ∧ rv = .slice ra rn rc ∧ StrsAt x (.slice ra rn rc) rl ∧ rl.length = rn ∧ rn ≤ rc ∧ (∀ t ∈ rl, t.size ≤ 1000000) ∧ InR Y ∧ Y.1 = k ∧ BoxC wr x.heap.size 42 (insCs Y) ∧ IntsAt wr (.slice ka nk kc) ks ∧ rdEnd s.toList (rdArgs (ks.drop j) Y (rl.map (·.toList))) = r ∧ Up x wr) (fun _ jv _ => nk - (intOf jv).toNat)
            case atStart => exact ⟨0, X, _, _, _, ws.tail, by omega, rfl, rfl, HTS.out, by rw [List.length_tail, HN.out], Nat.le_refl _, fun t ht => HWS.out t (List.mem_of_mem_tail ht), HIR.out, HXK.out, HBY.out, HIN.out, by rw [List.drop_zero, HTAIL.out]; exact HRX.out, HUY.out⟩
            case round =>
              rename World => wr
              obtain ⟨j, Y, ra, rn, rc, rl, hj, rfl, rfl, hst, hrl, hrc, hsz, hir, hyk, hbx, hint, hrd, hup⟩ := hrel
              have HSTR := Lib.hid hst
              have HRL := Lib.hid hrl
              have HSZ := Lib.hid hsz
              have HIY := Lib.hid hir
              have HYK := Lib.hid hyk
              have HBW := Lib.hid hbx
              have HINT := Lib.hid hint
              have HRD := Lib.hid hrd
              have HUW := Lib.hid hup
              clear hst hrl hsz hir hyk hbx hint hrd hup HRX HIR HXK HTS HBY HIN HUY
              by_cases hlt2 : j < nk
              · have hlt2I : (j : Int) < nk := by omega
                obtain ⟨kd, hkd⟩ : ∃ q, ks.getD j 0 = q := ⟨_, rfl⟩
                obtain ⟨kg, ko, hka, hkl, hkc⟩ := intsAt_get HINT.out rfl j hlt2
                rw [hkd] at hkc
                subst hka
                have hjl : j < ks.length := by rw [HNK.out]; exact hlt2
                have hkj : ks[j] = kd := by rw [← hkd, List.getD_eq_getElem?_getD, List.getElem?_eq_getElem hjl]; rfl
                have HKD : Hid (1 ≤ kd ∧ kd ≤ 17) := Lib.hid (HKIND.out kd (hkj ▸ List.getElem_mem hjl))
                have HR2 : Hid (rdEnd s.toList (if (rl.map (·.toList)).length = 0 then none else rdArgs (ks.drop (j + 1)) (rdOpd Y kd (rl.map (·.toList))) (rl.map (·.toList)).tail) = r) := Lib.hid (by
                  have := HRD.out
                  rw [List.drop_eq_getElem_cons hjl, hkj] at this
                  exact this)
                clear hkd hkj HRD
                by_cases hr0 : rn = 0
                · have HE : Hid (r = (i0, false)) := Lib.hid (by rw [← HR2.out, if_pos (by rw [List.length_map, HRL.out]; exact hr0)]; rfl)
                  subst hr0
                  have HVV := Lib.hid (HUX.out.trans HUW.out)
                  have HBV := Lib.hid (HBR.out.up HUW.out)
                  clear HR2 HBR
                  have bf := HBV.out.frozen
                  obtain ⟨b0, b1, b2, b3, b4, b5, b6, b7, b8, b9, b10⟩ := boxAll HBV.out
                  have s0 := box_zero HBV.out 0 (by decide)
                  have s1 := box_zero HBV.out 1 (by decide)
                  have s2 := box_zero HBV.out 2 (by decide)
                  have s3 := box_zero HBV.out 3 (by decide)
                  have s4 := box_zero HBV.out 4 (by decide)
                  have s5 := box_zero HBV.out 5 (by decide)
                  have s6 := box_zero HBV.out 6 (by decide)
                  have s7 := box_zero HBV.out 7 (by decide)
                  have s8 := box_zero HBV.out 8 (by decide)
                  have s9 := box_zero HBV.out 9 (by decide)
                  have s10 := box_zero HBV.out 10 (by decide)
                  go_wp2
                  refine bodyPost_ret (v := .tuple #[.agg #[.int .i64 0, .int .i64 0, .int .i64 0, .int .i64 0, .int .i64 0, .int .i64 0, .int .i64 0, .int .i64 0, .int .i64 0, .int .i64 0, .int .i64 0], .bool false]) (by simp [results, Tryz.results39, go_sem, *]) rfl ?_
                  exact ⟨by rw [HE.out], HVV.out⟩
                · have hr1 : 0 < rn := by omega
                  have hr1I : (0 : Int) < rn := by omega
                  have hr2I : (1 : Int) ≤ rn := by omega
                  have q0 : ((rn : Int) == 0) = false := by rw [beq_eq_false_iff_ne]; omega
                  have HRO := Lib.hid (fun (v : World) (hv : Up wr v) => isa_readOperand x.heap.size Y kd HKD.out ra rn rc rl v ((HSTR.out.up HUW.out).up hv) HRL.out hr1 (fun q => getD_size HSZ.out q) (HRR.out.up (HUX.out.trans (HUW.out.trans hv))) (HBW.out.up hv))
                  have HR3 : Hid (rdEnd s.toList (rdArgs (ks.drop (j + 1)) (rdOpd Y kd (rl.map (·.toList))) (rl.tail.map (·.toList))) = r) := Lib.hid (by
                    have := HR2.out
                    rw [if_neg (by rw [List.length_map, HRL.out]; exact hr0), ← List.map_tail] at this
                    exact this)
                  have HTL2 := Lib.hid (HSTR.out.tail HRL.out hr1 hrc)
                  have hrcI : (rn : Int) ≤ rc := by omega
                  clear HR2
                  go_wp2_with (go_at_call 66; refine (HRO.out _ (Up.refl _)).mono ?_; rintro e w2 ⟨rfl, hub, hb2⟩; have HUB := Lib.hid hub; have HB2 := Lib.hid hb2; clear hub hb2)
                  go_roundw
                  case rel => exact ⟨j + 1, _, _, _, _, rl.tail, by omega, by go_num, rfl, HTL2.out, by rw [List.length_tail, HRL.out], by omega, fun t ht => HSZ.out t (List.mem_of_mem_tail ht), rdOpd_R HIY.out _ _, (rdOpd_op _ _ _).trans HYK.out, HB2.out, HINT.out.but HUB.out HKB.out, HR3.out, UpBut.up HUW.out (Nat.le_refl _) HUB.out⟩
                  case measure => simp [intOf]; omega
              · obtain rfl : j = nk := by omega
                have HE : Hid (r = (Y, wfB Y && (lineL Y == s.toList))) := Lib.hid (by
                  rw [← HRD.out, List.drop_eq_nil_of_le (by rw [HNK.out]; omega)]; rfl)
                have HVV := Lib.hid (HUX.out.trans HUW.out)
                have HBV := Lib.hid (HBR.out.up HUW.out)
                obtain ⟨wf, hwf⟩ : ∃ q, wfB Y = q := ⟨_, rfl⟩
                obtain ⟨ll, hll⟩ : ∃ q, lineL Y = q := ⟨_, rfl⟩
                have HWF : Hid (∀ v, Up w v → Calls Tryz.prog 30 #[.agg #[.int .i64 Y.1, .int .i64 Y.2.1, .int .i64 Y.2.2.1, .int .i64 Y.2.2.2.1, .int .i64 Y.2.2.2.2.1.1, .int .i64 Y.2.2.2.2.1.2, .int .i64 Y.2.2.2.2.2.1, .int .i64 Y.2.2.2.2.2.2.1, .int .i64 Y.2.2.2.2.2.2.2.1, .int .i64 Y.2.2.2.2.2.2.2.2.1, .int .i64 Y.2.2.2.2.2.2.2.2.2]] v fun e' w' => e' = .returned (.bool wf) ∧ Up v w') := Lib.hid (fun v hv => by rw [← hwf]; exact isa_wellFormed Y HIY.out v (HIT.out.up hv))
                have HLN : Hid (∀ v, Up w v → Calls Tryz.prog 32 #[.agg #[.int .i64 Y.1, .int .i64 Y.2.1, .int .i64 Y.2.2.1, .int .i64 Y.2.2.2.1, .int .i64 Y.2.2.2.2.1.1, .int .i64 Y.2.2.2.2.1.2, .int .i64 Y.2.2.2.2.2.1, .int .i64 Y.2.2.2.2.2.2.1, .int .i64 Y.2.2.2.2.2.2.2.1, .int .i64 Y.2.2.2.2.2.2.2.2.1, .int .i64 Y.2.2.2.2.2.2.2.2.2]] v fun e' w' => e' = .returned (.string (bst ll)) ∧ Up v w') := Lib.hid (fun v hv => by rw [← hll]; exact isa_line Y HIY.out (by rw [HYK.out]; unfold knownB; rw [decide_eq_true_eq]; omega) v (HFT.out.up hv) (HIT.out.up hv) (HWT.out.up hv))
                rw [hwf, hll] at HE
                have qll : ((bst ll).toList == s.toList) = (ll == s.toList) := by rw [bst_list]
                have hxlt : x.heap.size < wr.heap.size := HBW.out.lt
                have HNE : Hid (w.heap.size ≠ x.heap.size) := Lib.hid (by have := HUX.out.size; have := HBR.out.lt; omega)
                obtain ⟨c0, c1, c2, c3, c4, c5, c6, c7, c8, c9, c10⟩ := boxAll HBW.out
                clear hwf hll HRD HSTR HINT HBR
                have HUWR := HVV
                have hlt0 : w.heap.size < wr.heap.size := HBV.out.lt
                have hxne : x.heap.size ≠ w.heap.size := Ne.symm HNE.out
                have UPW : ∀ v, Rr w.heap.size (.cells (insCs Y) 42 (0, 0)) wr v → Up w v := fun v hv => UpBut.up HUWR.out (Nat.le_refl _) hv.1
                have HUPW := Lib.hid UPW
                have HST : Hid (∀ v, Rr w.heap.size (.cells (insCs Y) 42 (0, 0)) wr v → ∃ u, BoxC v w.heap.size 42 (insCs u)) := Lib.hid (fun v hv => by
                  rcases hv.2 with e | e
                  · exact ⟨i0, e.trans HBV.out⟩
                  · exact ⟨Y, e⟩)
                clear UPW HBV
                go_upto_region 18 with fail
                refine wp_region_mk_all_r (g := w.heap.size) (C := .cells (insCs Y) 42 (0, 0)) (fun f _ v _ => (f = 30 → v = .bool wf) ∧ (f = 32 → v = .string (bst ll))) (by kernel_rfl) (by kernel_rfl) ?_
                iterate 2 (refine wpMk_quiet_r anti_post_r (by kernel_rfl) ?_; go_big_quiet_step (fail); refine wpQuiet_nil ?_)
                refine wpMk_enter_r anti_post_r 30 #[.agg #[.int .i64 Y.1, .int .i64 Y.2.1, .int .i64 Y.2.2.1, .int .i64 Y.2.2.2.1, .int .i64 Y.2.2.2.2.1.1, .int .i64 Y.2.2.2.2.1.2, .int .i64 Y.2.2.2.2.2.1, .int .i64 Y.2.2.2.2.2.2.1, .int .i64 Y.2.2.2.2.2.2.2.1, .int .i64 Y.2.2.2.2.2.2.2.2.1, .int .i64 Y.2.2.2.2.2.2.2.2.2]] (fun v x y h hu => h) (by kernel_rfl) (fun x => by go_simp) (fun q hq => (HWF.out _ (HUPW.out _ hq)).mono fun e z ⟨h1, h2⟩ => ⟨_, h1, Up.rr h2 _ _ (hq.lt hlt0), fun _ => rfl, fun h => absurd h (by decide)⟩) ?_
                rintro v ⟨q0, hq0, hv0, -⟩
                obtain rfl := hv0 rfl
                clear hq0 hv0
                simp only [Act.put, List.setIfInBounds_toArray, List.set_cons_succ, List.set_cons_zero]
                refine wpMk_quiet_r anti_post_r (by kernel_rfl) ?_; go_big_quiet_step (fail); refine wpQuiet_nil ?_
                cases wf
                · iterate 4 (refine wpMk_unwanted_r anti_post_r (by kernel_rfl) ?_)
                  simp only [Act.put, List.setIfInBounds_toArray, List.set_cons_succ, List.set_cons_zero]
                  refine wpMk_quiet_r anti_post_r (by kernel_rfl) ?_; go_big_quiet_step (fail); refine wpQuiet_nil ?_
                  refine wpMk_store_r anti_post_r (by kernel_rfl) (fun q hq => by
                    obtain ⟨u, hu⟩ := HST.out q hq
                    have uf := hu.frozen
                    obtain ⟨u0, u1, u2, u3, u4, u5, u6, u7, u8, u9, u10⟩ := boxAll hu
                    exact ⟨(((((((((((q.setCell ⟨w.heap.size, 0, none⟩ (.int .i64 Y.1)).setCell ⟨w.heap.size, 1, none⟩ (.int .i64 Y.2.1)).setCell ⟨w.heap.size, 2, none⟩ (.int .i64 Y.2.2.1)).setCell ⟨w.heap.size, 3, none⟩ (.int .i64 Y.2.2.2.1)).setCell ⟨w.heap.size, 4, none⟩ (.int .i64 Y.2.2.2.2.1.1)).setCell ⟨w.heap.size, 5, none⟩ (.int .i64 Y.2.2.2.2.1.2)).setCell ⟨w.heap.size, 6, none⟩ (.int .i64 Y.2.2.2.2.2.1)).setCell ⟨w.heap.size, 7, none⟩ (.int .i64 Y.2.2.2.2.2.2.1)).setCell ⟨w.heap.size, 8, none⟩ (.int .i64 Y.2.2.2.2.2.2.2.1)).setCell ⟨w.heap.size, 9, none⟩ (.int .i64 Y.2.2.2.2.2.2.2.2.1)).setCell ⟨w.heap.size, 10, none⟩ (.int .i64 Y.2.2.2.2.2.2.2.2.2)), by go_simp, ((((((((((((UpBut.refl _ _).setCell 0 none _).setCell 1 none _).setCell 2 none _).setCell 3 none _).setCell 4 none _).setCell 5 none _).setCell 6 none _).setCell 7 none _).setCell 8 none _).setCell 9 none _).setCell 10 none _), box11 hu⟩) ?_
                  simp only [Act.put, List.setIfInBounds_toArray, List.set_cons_succ, List.set_cons_zero]
                  refine wpMk_quiet_r anti_post_r (by kernel_rfl) ?_; go_big_quiet_step (fail); refine wpQuiet_nil ?_
                  refine wpMk_nil_r ?_
                  rintro q hq ⟨-, hC⟩
                  have HRZ : Hid (BoxC q w.heap.size 42 (insCs Y)) := Lib.hid hC
                  have HUQ := Lib.hid (HUPW.out q hq)
                  clear hC hq
                  have rf := HRZ.out.frozen
                  obtain ⟨r0, r1, r2, r3, r4, r5, r6, r7, r8, r9, r10⟩ := boxAll HRZ.out
                  go_wp2
                  refine bodyPost_ret (v := .tuple #[insV Y, .bool false]) (by simp [results, Tryz.results39, go_sem, *]) rfl ?_
                  exact ⟨by rw [HE.out]; rfl, HUQ.out⟩
                · refine wpMk_quiet_r anti_post_r (by kernel_rfl) ?_; go_big_quiet_step (fail); refine wpQuiet_nil ?_
                  refine wpMk_enter_r anti_post_r 32 #[.agg #[.int .i64 Y.1, .int .i64 Y.2.1, .int .i64 Y.2.2.1, .int .i64 Y.2.2.2.1, .int .i64 Y.2.2.2.2.1.1, .int .i64 Y.2.2.2.2.1.2, .int .i64 Y.2.2.2.2.2.1, .int .i64 Y.2.2.2.2.2.2.1, .int .i64 Y.2.2.2.2.2.2.2.1, .int .i64 Y.2.2.2.2.2.2.2.2.1, .int .i64 Y.2.2.2.2.2.2.2.2.2]] (fun v x y h hu => h) (by kernel_rfl) (fun x => by go_simp) (fun q hq => (HLN.out _ (HUPW.out _ hq)).mono fun e z ⟨h1, h2⟩ => ⟨_, h1, Up.rr h2 _ _ (hq.lt hlt0), fun h => absurd h (by decide), fun _ => rfl⟩) ?_
                  rintro v ⟨q0, hq0, -, hv0⟩
                  obtain rfl := hv0 rfl
                  clear hq0 hv0
                  simp only [Act.put, List.setIfInBounds_toArray, List.set_cons_succ, List.set_cons_zero]
                  iterate 3 (refine wpMk_quiet_r anti_post_r (by kernel_rfl) ?_; go_big_quiet_step (fail); refine wpQuiet_nil ?_)
                  refine wpMk_store_r anti_post_r (by kernel_rfl) (fun q hq => by
                    obtain ⟨u, hu⟩ := HST.out q hq
                    have uf := hu.frozen
                    obtain ⟨u0, u1, u2, u3, u4, u5, u6, u7, u8, u9, u10⟩ := boxAll hu
                    exact ⟨(((((((((((q.setCell ⟨w.heap.size, 0, none⟩ (.int .i64 Y.1)).setCell ⟨w.heap.size, 1, none⟩ (.int .i64 Y.2.1)).setCell ⟨w.heap.size, 2, none⟩ (.int .i64 Y.2.2.1)).setCell ⟨w.heap.size, 3, none⟩ (.int .i64 Y.2.2.2.1)).setCell ⟨w.heap.size, 4, none⟩ (.int .i64 Y.2.2.2.2.1.1)).setCell ⟨w.heap.size, 5, none⟩ (.int .i64 Y.2.2.2.2.1.2)).setCell ⟨w.heap.size, 6, none⟩ (.int .i64 Y.2.2.2.2.2.1)).setCell ⟨w.heap.size, 7, none⟩ (.int .i64 Y.2.2.2.2.2.2.1)).setCell ⟨w.heap.size, 8, none⟩ (.int .i64 Y.2.2.2.2.2.2.2.1)).setCell ⟨w.heap.size, 9, none⟩ (.int .i64 Y.2.2.2.2.2.2.2.2.1)).setCell ⟨w.heap.size, 10, none⟩ (.int .i64 Y.2.2.2.2.2.2.2.2.2)), by go_simp, ((((((((((((UpBut.refl _ _).setCell 0 none _).setCell 1 none _).setCell 2 none _).setCell 3 none _).setCell 4 none _).setCell 5 none _).setCell 6 none _).setCell 7 none _).setCell 8 none _).setCell 9 none _).setCell 10 none _), box11 hu⟩) ?_
                  simp only [Act.put, List.setIfInBounds_toArray, List.set_cons_succ, List.set_cons_zero]
                  refine wpMk_quiet_r anti_post_r (by kernel_rfl) ?_; go_big_quiet_step (fail); refine wpQuiet_nil ?_
                  refine wpMk_nil_r ?_
                  rintro q hq ⟨-, hC⟩
                  have HRZ : Hid (BoxC q w.heap.size 42 (insCs Y)) := Lib.hid hC
                  have HUQ := Lib.hid (HUPW.out q hq)
                  clear hC hq
                  have rf := HRZ.out.frozen
                  obtain ⟨r0, r1, r2, r3, r4, r5, r6, r7, r8, r9, r10⟩ := boxAll HRZ.out
                  go_wp2
                  refine bodyPost_ret (v := .tuple #[insV Y, .bool (ll == s.toList)]) (by simp [results, Tryz.results39, go_sem, *]) rfl ?_
                  exact ⟨by rw [HE.out]; rfl, HUQ.out⟩
      · have qm : ((mnS k).toList == w0.toList) = false := by
          rw [Lib.toList_data, Lib.toList_data]
          rw [beq_eq_false_iff_ne]
          intro h
          exact hm (ByteArray.ext (Array.toList_inj.1 h))
        have HN2 : Hid (rdOp s.toList (ws.map (·.toList)) (fndG w0 m (k + 1)) = r) := Lib.hid (by have := HGG.out; rwa [if_neg hm] at this)
        have hm := Lib.hid hm
        clear HGG
        go_upto_region 5 with fail
        refine wp_region_ext (by kernel_rfl) (by kernel_rfl) ?_
        repeat (go_big_quiet_step (fail))
        refine wpQuiet_nil ?_
        intro x hx
        replace HV := Lib.hid (HV.out.trans hx)
        clear hx
        go_wp2
        go_roundw
        case rel => exact ⟨k + 1, m, by go_num, by omega, HN2.out, HV.out⟩
        case measure => simp [intOf]; omega
    · obtain rfl : k = 17 := by omega
      obtain rfl : m = 0 := by omega
      have HE : Hid (r = (i0, false)) := Lib.hid (by rw [← HG.out]; rfl)
      clear HG HWT HST
      have HVV := Lib.hid (HUZ.out.trans HV.out)
      have HBV := Lib.hid (HBZ.out.up HV.out)
      have bf := HBV.out.frozen
      have b0 := HBV.out.i0
      have b1 := HBV.out.i1
      have b2 := HBV.out.i2
      have b3 := HBV.out.i3
      have b4 := HBV.out.i4
      have b5 := HBV.out.i5
      have b6 := HBV.out.i6
      have b7 := HBV.out.i7
      have b8 := HBV.out.i8
      have b9 := HBV.out.i9
      have b10 := HBV.out.i10
      have s0 := box_zero HBV.out 0 (by decide)
      have s1 := box_zero HBV.out 1 (by decide)
      have s2 := box_zero HBV.out 2 (by decide)
      have s3 := box_zero HBV.out 3 (by decide)
      have s4 := box_zero HBV.out 4 (by decide)
      have s5 := box_zero HBV.out 5 (by decide)
      have s6 := box_zero HBV.out 6 (by decide)
      have s7 := box_zero HBV.out 7 (by decide)
      have s8 := box_zero HBV.out 8 (by decide)
      have s9 := box_zero HBV.out 9 (by decide)
      have s10 := box_zero HBV.out 10 (by decide)
      go_wp2
      refine bodyPost_ret (v := .tuple #[.agg #[.int .i64 0, .int .i64 0, .int .i64 0, .int .i64 0, .int .i64 0, .int .i64 0, .int .i64 0, .int .i64 0, .int .i64 0, .int .i64 0, .int .i64 0], .bool false]) (by simp [results, Tryz.results39, go_sem, *]) rfl ?_
      refine ⟨by rw [HE.out], ?_⟩
      exact HVV.out
end Go.Proofs.YtlglfdhiopnglaaGreatDoor
