/-
  Joined by a program: LinM, LinM2, LinAd, LinSp, LinNp, LinQ.
-/
import Derived.Test.YtahlecmlhdikjaaDoorGc
import Derived.Test.YtahlecmlhdikjaaDoorGa

section
namespace Go.Proofs.YtahlecmlhdikjaaDoor
set_option linter.unusedSimpArgs false
open Go.ChangeShapes Go.WideShapes Go.ChangeAt Go.RowKit
set_option linter.unusedVariables false

theorem lin_plus2 (a b : Int) (ha : In64 a) (hb : In64 b) (w : World) :
    Calls Tryd.prog 84 #[.int .i64 a, .int .i64 b] w fun e w' => e = .returned (.tuple #[.int .i64 (wrap64 (a + b)), .bool (fitB (a + b))]) ∧ w' = w := by
  obtain ⟨a0, a1⟩ := ha
  obtain ⟨b0, b1⟩ := hb
  have hw : wrap64 (a + b) = (if a + b < -9223372036854775808 then a + b + 18446744073709551616 else if 9223372036854775807 < a + b then a + b - 18446744073709551616 else a + b) := by
    unfold wrap64; split
    · omega
    · split <;> omega
  have hf : (decide (a < wrap64 (a + b)) == decide (0 < b)) = fitB (a + b) := by
    rw [hw]
    by_cases h1 : a + b < -9223372036854775808
    · rw [if_pos h1, decide_eq_true (by omega), decide_eq_false (by omega : ¬ 0 < b), fit_false (by omega)]; rfl
    · rw [if_neg h1]
      by_cases h2 : 9223372036854775807 < a + b
      · rw [if_pos h2, decide_eq_false (by omega), decide_eq_true (by omega : 0 < b), fit_false (by omega)]; rfl
      · rw [if_neg h2, fit_true (by omega)]
        by_cases h3 : 0 < b
        · rw [decide_eq_true (by omega), decide_eq_true h3]; rfl
        · rw [decide_eq_false (by omega), decide_eq_false h3]; rfl
  obtain ⟨f, hff⟩ : ∃ f, fitB (a + b) = f := ⟨_, rfl⟩
  rw [hff] at hf ⊢
  have HF := Lib.hid hf
  clear hw hf hff
  go_enter Tryd.func84, Tryd.ntmps84
  go_wp2
  go_ret2
  refine ⟨ret_ib rfl ?_, rfl⟩
  rw [← HF.out]

def stepA (acc : List Mono × Bool) (s : ByteArray) (x y : Int) : List Mono × Bool := (if wrap64 (x + y) = 0 then acc.1 else acc.1 ++ [(s, wrap64 (x + y))], acc.2 && fitB (x + y))

/-- What turns nothing below h but blocks b and c. -/
structure UpTwo (h b c : Nat) (w w' : World) : Prop where
  os : w'.os = w.os
  tape : w'.tape = w.tape
  output : w'.output = w.output
  size : w.heap.size ≤ w'.heap.size
  block : ∀ k, k < h → k ≠ b → k ≠ c → w'.heap[k]? = w.heap[k]?
theorem UpTwo.refl (h b c : Nat) (w : World) : UpTwo h b c w w := ⟨rfl, rfl, rfl, Nat.le_refl _, fun _ _ _ _ => rfl⟩
theorem UpTwo.trans {h b c : Nat} {x y z : World} (p : UpTwo h b c x y) (q : UpTwo h b c y z) : UpTwo h b c x z :=
  ⟨q.os.trans p.os, q.tape.trans p.tape, q.output.trans p.output, Nat.le_trans p.size q.size, fun k hk hb hc => (q.block k hk hb hc).trans (p.block k hk hb hc)⟩
theorem UpRow.two {h b c : Nat} {w w' : World} (u : UpRow h b w w') : UpTwo h b c w w' := ⟨u.os, u.tape, u.output, u.size, fun k hk hb _ => u.block k hk hb⟩
theorem UpTwo.setC {h b c : Nat} {w w' : World} (u : UpTwo h b c w w') (o : Nat) (v : Value) : UpTwo h b c w (w'.setCell ⟨c, o, none⟩ v) :=
  ⟨u.os, u.tape, u.output, by rw [set_size]; exact u.size, fun k hk hb hc => (Below.heap_setCell _ _ _ _ hc).trans (u.block k hk hb hc)⟩
theorem Up.two {w w' : World} (u : Up w w') {h b c : Nat} (hh : h ≤ w.heap.size) : UpTwo h b c w w' := ⟨Below.os u, Below.tape u, Below.output u, u.size, fun k hk _ _ => Below.block u k (by omega)⟩
theorem UpTwo.up {h b c : Nat} {w w1 w2 : World} (u : Up w w1) (hb : w.heap.size ≤ b) (hc : w.heap.size ≤ c) (hh : w.heap.size ≤ h) (k : UpTwo h b c w1 w2) : Up w w2 :=
  ⟨k.os.trans (Below.os u), k.tape.trans (Below.tape u), k.output.trans (Below.output u), Nat.le_trans (Below.size u) k.size, fun i hi => (k.block i (by omega) (by omega) (by omega)).trans (Below.block u i hi)⟩
theorem UpTwo.cell {h b c : Nat} {w w' : World} (u : UpTwo h b c w w') (k o : Nat) (hk : k < h) (hb : k ≠ b) (hc : k ≠ c) : w'.cell? ⟨k, o, none⟩ = w.cell? ⟨k, o, none⟩ :=
  World.cell?_of_block (w := w) (u.block k hk hb hc)

/-- The sum so far: the form in block O (its row from h on), whether all fits in block F. -/
def AddAt (w : World) (h O F : Nat) (K : Int) (r : List Mono × Bool) : Prop :=
  (∃ n a cap, OutAt w h O K r.1 n a cap) ∧ w.heap[F]? = some (.cells #[.bool r.2] 4 (0, 0)) ∧ F < h ∧ F ≠ O

theorem OutAt.setF {w : World} {h O n F : Nat} {K : Int} {l : List Mono} {a : Option Addr} {cap : Nat} (x : OutAt w h O K l n a cap) (hF : F < h) (hne : F ≠ O) (v : Value) : OutAt (w.setCell ⟨F, 0, none⟩ v) h O K l n a cap := by
  obtain ⟨h1, h2, h3, h4, h5⟩ := x
  exact ⟨h1, (Below.heap_setCell _ _ _ _ (Ne.symm hne)).trans h2, ownsRow_setCell_below h3 hF v, h4, by rw [set_size]; exact h5⟩
theorem AddAt.up {w w' : World} {h O F : Nat} {K : Int} {r : List Mono × Bool} (x : AddAt w h O F K r) (u : Up w w') : AddAt w' h O F K r := by
  obtain ⟨⟨n, a, cap, ho⟩, h2, h3, h4⟩ := x
  exact ⟨⟨n, a, cap, ho.up u⟩, (u.heap F (by have := ho.2.2.2.2; omega)).trans h2, h3, h4⟩

set_option maxHeartbeats 4000000 in
set_option maxRecDepth 100000 in
theorem lin_Add1 (s : ByteArray) (x y : Int) (hx : In64 x) (hy : In64 y) (w : World) (h O F : Nat) (K : Int) (r : List Mono × Bool) (hp : AddAt w h O F K r) (hlen : r.1.length ≤ 5000) :
    Calls Tryd.prog 86 #[.string s, .int .i64 x, .int .i64 y, .pointer (some ⟨F, 0, none⟩), .pointer (some ⟨O, 0, none⟩)] w fun e w' => e = .returned (.tuple #[]) ∧ AddAt w' h O F K (stepA r s x y) ∧ UpTwo h O F w w' := by
  obtain ⟨i0, hi0, hz0, hz1, hz2⟩ := info_parts mono_info
  obtain ⟨l, f⟩ := r
  obtain ⟨⟨n, a, cap, hO⟩, hF, hFh, hFO⟩ := hp
  dsimp only at hO hF hlen
  have hOl := hO.2.2.2.1
  have hOs := hO.2.2.2.2
  have hnl : n = l.length := hO.1
  have hnI : (n : Int) ≤ 5000 := by omega
  clear hnl
  obtain ⟨c, hc⟩ : ∃ c, wrap64 (x + y) = c := ⟨_, rfl⟩
  obtain ⟨g, hg⟩ : ∃ g, fitB (x + y) = g := ⟨_, rfl⟩
  have HPL : Hid (∀ w, Calls Tryd.prog 84 #[.int .i64 x, .int .i64 y] w fun e w' => e = .returned (.tuple #[.int .i64 c, .bool g]) ∧ w' = w) := Lib.hid fun w => by
    have := lin_plus2 x y hx hy w
    rw [hc, hg] at this; exact this
  obtain ⟨f', hf'⟩ : ∃ f', (f && g) = f' := ⟨_, rfl⟩
  have HST : Hid (stepA (l, f) s x y = (if c = 0 then l else l ++ [(s, c)], f')) := Lib.hid (by unfold stepA; rw [hc, hg, hf'])
  have HO := Lib.hid hO
  have HFF := Lib.hid hF
  have z0 : w.cell? ⟨F, 0, none⟩ = some (.bool f) := cell_of_row _ _ _ _ _ _ hF
  have zf : ∀ o, w.frozen? ⟨F, o, none⟩ = false := fun o => frozen_of_row _ _ o _ _ hF
  have hOF := hO.setF hFh hFO (.bool f')
  have HOF := Lib.hid hOF
  have HKEY := Lib.hid (hOF.key s c)
  obtain ⟨y0, y1, yf, yl⟩ := hOF.cells
  have hFw : F < w.heap.size := by omega
  have hF2 : ∀ w', UpTwo h O F (w.setCell ⟨F, 0, none⟩ (.bool f')) w' → UpTwo h O F w w' := fun w' u => ((UpTwo.refl h O F w).setC 0 _).trans u
  have hF3 : ∀ w', UpRow h O (w.setCell ⟨F, 0, none⟩ (.bool f')) w' → w'.heap[F]? = some (.cells #[.bool f'] 4 (0, 0)) := fun w' u => by
    refine (u.block F hFh hFO).trans ?_
    simp [World.setCell, Array.getElem?_modify, hF]
  have HF2 := Lib.hid hF2
  have HF3 := Lib.hid hF3
  clear hO hF hc hg hOF hF2 hF3
  have hcc : c = 0 ∨ c ≠ 0 := by omega
  have hs : (w.setCell ⟨F, 0, none⟩ (.bool f')).heap.size = w.heap.size := set_size _ _ _
  have HSL := Lib.hid (mono_sl (w.setCell ⟨F, 0, none⟩ (.bool f')) s c)
  rw [hs] at HSL
  clear hs
  cases f <;> cases g <;> cases f' <;> first | (exact absurd hf' (by decide)) | skip
  all_goals
    rcases hcc with rfl | hc0
    · go_enter Tryd.func86, Tryd.ntmps86
      go_wp2_with fail
      refine (HPL.out _).mono ?_
      rintro e x2 ⟨rfl, hx2⟩
      replace hx2 := hx2.symm
      subst hx2
      go_wp2
      go_end0
      refine ⟨rfl, ?_, HF2.out _ (UpTwo.refl _ _ _ _)⟩
      have h9 := HST.out
      simp only [if_true] at h9
      rw [h9]
      exact ⟨⟨n, a, cap, HOF.out⟩, HF3.out _ (UpRow.refl _ _ _), hFh, hFO⟩
    · have hc1 : (c == 0) = false := by simpa using hc0
      go_enter Tryd.func86, Tryd.ntmps86
      go_wp2_with fail
      refine (HPL.out _).mono ?_
      rintro e x2 ⟨rfl, hx2⟩
      replace hx2 := hx2.symm
      subst hx2
      go_wp2_with (at_builtin; refine wpList_append_sl _ rfl _ _ 22 rfl h 56 i0 _ 2 24 Tryd.underlying22 hi0 hz0 hz1 hz2 rfl (by decide) (.slice a n cap) n _ rfl (HOF.out.2.2.1.alloc _) (.slice (some ⟨w.heap.size, 0, none⟩) 1 1) 1 _ rfl HSL.out (mono_one s c) (by unfold maxLen; omega) (by omega) (by have := HOF.out.2.2.2.2; rw [size_alloc]; omega) ?_; intro v1 w1 hown1 hg1 hat1 hnil1; obtain ⟨vb, vd, rfl⟩ := own_slice hown1; obtain ⟨d2, d3, HD2, HD3, HD4⟩ := HKEY.out w1 hg1; have HO1 := Lib.hid hown1; clear hown1 hg1 hat1 hnil1)
      obtain ⟨hf1, hf2⟩ := HOF.out.done s c HD2.out HD3.out HD4.out vb vd HO1.out
      go_end0
      refine ⟨rfl, ?_, HF2.out _ hf2.two⟩
      have h9 := HST.out
      rw [if_neg hc0] at h9
      rw [h9]
      exact ⟨⟨n + 1, vb, vd, hf1⟩, HF3.out _ hf2, hFh, hFO⟩
end Go.Proofs.YtahlecmlhdikjaaDoor
end

section
namespace Go.Proofs.YtahlecmlhdikjaaDoor
set_option linter.unusedSimpArgs false
open Go.ChangeShapes Go.WideShapes Go.ChangeAt Go.RowKit
set_option linter.unusedVariables false

def mergeF : List Mono → List Mono → List Mono × Bool → List Mono × Bool
  | [], [], acc => acc
  | m :: r, [], acc => mergeF r [] (stepA acc m.1 m.2 0)
  | [], m' :: r', acc => mergeF [] r' (stepA acc m'.1 0 m'.2)
  | m :: r, m' :: r', acc =>
    if Op.bytesLess m.1.toList m'.1.toList then mergeF r (m' :: r') (stepA acc m.1 m.2 0)
    else if Op.bytesLess m'.1.toList m.1.toList then mergeF (m :: r) r' (stepA acc m'.1 0 m'.2)
    else mergeF r r' (stepA acc m.1 m.2 m'.2)
termination_by l l' _ => l.length + l'.length

def lenV (v : Value) : Nat := match v with
  | .slice _ n _ => n
  | _ => 0

/-- A list as it stands for merge: its cells, in a world that was there before; its length, its capacity, its numbers. -/
def Part (w0 : World) (v : Value) (l : List Mono) : Prop := MonosAt w0 v l ∧ Rng l ∧ CapOk v

theorem Part.nil (w : World) (a : Option Addr) (cap : Nat) : Part w (.slice a 0 cap) [] :=
  ⟨⟨⟨a, cap, rfl, (fun _ => rfl), fun x hx hl => absurd hl (by simp)⟩, by decide⟩, fun k hk => absurd hk (by simp), ⟨_, _, _, rfl, by omega⟩⟩
theorem Part.form {w0 : World} {v : Value} {m : Mono} {l : List Mono} (h : Part w0 v (m :: l)) :
    ∃ bl off cap, v = .slice (some ⟨bl, off, none⟩) (l.length + 1) cap ∧ l.length + 1 ≤ cap ∧ l.length + 1 ≤ 9223372036854775807 ∧ bl < w0.heap.size ∧ In64 m.2 ∧ (∀ w, Up w0 w → w.cell? ⟨bl, off, none⟩ = some (.string m.1) ∧ w.cell? ⟨bl, off + 1, none⟩ = some (.int .i64 m.2)) ∧
      Part w0 (.slice (if cap = 1 then some ⟨bl, off, none⟩ else some ⟨bl, off + 2, none⟩) l.length (cap - 1)) l := by
  obtain ⟨hm, hr, ⟨a, n, c, rfl, hnc⟩⟩ := h
  obtain ⟨⟨a', cap, hv, h0, hc⟩, hmax⟩ := hm
  simp only [Value.slice.injEq] at hv
  obtain ⟨rfl, rfl, rfl⟩ := hv
  simp only [List.length_cons] at hnc hmax h0 hc
  cases a with
  | none => exact absurd (h0 rfl) (by omega)
  | some x =>
    obtain ⟨g1, g2, g3⟩ := hc x rfl (by omega)
    obtain ⟨bl, off, sp⟩ := x
    have g1' : sp = none := g1
    subst g1'
    have g2' : bl < w0.heap.size := g2
    have hi : In64 m.2 := hr 0 (by simp)
    refine ⟨bl, off, c, rfl, hnc, hmax, g2', hi, fun w u => ⟨?_, ?_⟩, ⟨⟨⟨_, c - 1, rfl, ?_, fun x hx hl => ?_⟩, by omega⟩, fun k hk => ?_, ⟨_, _, _, rfl, by omega⟩⟩⟩
    · have := g3 0 0 (by omega) (by omega)
      simp only [Nat.zero_mul, Nat.add_zero] at this
      exact (u.cell _ _ g2').trans this
    · have := g3 0 1 (by omega) (by omega)
      simp only [Nat.zero_mul, Nat.add_zero] at this
      exact (u.cell _ _ g2').trans this
    · intro e
      split at e <;> cases e
    · rw [if_neg (by omega)] at hx
      cases hx
      refine ⟨rfl, g2', fun i j hi hj => ?_⟩
      have := g3 (i + 1) j (by omega) hj
      rw [show off + (i + 1) * 2 + j = off + 2 + i * 2 + j by omega] at this
      exact this
    · exact hr (k + 1) (by simpa using hk)

theorem stepA_len (acc : List Mono × Bool) (s : ByteArray) (x y : Int) : (stepA acc s x y).1.length ≤ acc.1.length + 1 := by
  unfold stepA
  split
  · simp
  · simp
theorem in64_0 : In64 0 := ⟨by omega, by omega⟩

set_option maxHeartbeats 8000000 in
set_option maxRecDepth 100000 in
theorem lin_merge (w0 : World) (v v' : Value) (l l' : List Mono) (hv : Part w0 v l) (hv' : Part w0 v' l') (w : World) (hU : Up w0 w) (h O F : Nat) (hO0 : w0.heap.size ≤ O) (hF0 : w0.heap.size ≤ F) (hh0 : w0.heap.size ≤ h) (K : Int) (r : List Mono × Bool) (hp : AddAt w h O F K r) (hlen : l.length + l'.length + r.1.length ≤ 5000) :
    Calls Tryd.prog 85 #[v, v', .func (.func 86) #[] #[.pointer (some ⟨F, 0, none⟩), .pointer (some ⟨O, 0, none⟩)]] w fun e w' => e = .returned (.tuple #[]) ∧ AddAt w' h O F K (mergeF l l' r) ∧ UpTwo h O F w w' := by
  obtain ⟨res, hres⟩ : ∃ x, mergeF l l' r = x := ⟨_, rfl⟩
  rw [hres]
  have HRES := Lib.hid hres
  have HV := Lib.hid hv
  have HV' := Lib.hid hv'
  have HP := Lib.hid hp
  have HLEN := Lib.hid hlen
  have HU0 := Lib.hid hU
  have hO := hp.2.2
  clear hres hv hv' hp hlen hU
  go_enter Tryd.func85, Tryd.ntmps85
  go_wp2
  go_loopw [0, 1] (fun x y wr => ∃ (la lb : List Mono) (acc : List Mono × Bool), Part w0 x la ∧ Part w0 y lb ∧ AddAt wr h O F K acc ∧ UpTwo h O F w wr ∧ mergeF la lb acc = res ∧ la.length + lb.length + acc.1.length ≤ 5000) (fun x y _ => lenV x + lenV y)
  case atStart => exact ⟨l, l', r, HV.out, HV'.out, HP.out, UpTwo.refl _ _ _ _, HRES.out, HLEN.out⟩
  case round =>
    rename_i wr
    obtain ⟨la, lb, acc, hA, hB, hS, hT, hM, hL⟩ := hrel
    have hU := UpTwo.up HU0.out hO0 hF0 hh0 hT
    have HS := Lib.hid hS
    have HT := Lib.hid hT
    have HM := Lib.hid hM
    have HL := Lib.hid hL
    clear hS hT hM hL
    have HUW := Lib.hid hU
    have hh1 : h ≤ wr.heap.size := by have := HS.out.1; obtain ⟨_, _, _, ho⟩ := this; exact ho.2.2.2.2
    clear hU
    cases la with
    | nil =>
      obtain ⟨a1, cap1, rfl⟩ := hA.1.slice
      cases lb with
      | nil =>
        obtain ⟨a2, cap2, rfl⟩ := hB.1.slice
        obtain rfl : acc = res := by rw [← HM.out, mergeF]
        go_wp2
        go_end0
        exact ⟨rfl, HS.out, HT.out⟩
      | cons m' r' =>
        have HA := Lib.hid hA
        obtain ⟨bl', off', cap', rfl, ic1', ic2', ib', ii', icell', itail'⟩ := hB.form
        obtain ⟨s', b'⟩ := m'
        obtain ⟨n', hn'⟩ : ∃ n, r'.length = n := ⟨_, rfl⟩
        rw [hn'] at ic1' ic2' itail'
        rw [hn']
        have HN' := Lib.hid hn'
        have lz' : (((n' : Nat) : Int) + 1 == 0) = false := by simp; omega
        have lp' : (0 : Int) < (n' : Int) + 1 := by omega
        have HCB := Lib.hid icell'
        have HTB := Lib.hid itail'
        have HM2 : Hid (mergeF [] r' (stepA acc s' 0 b') = res) := Lib.hid (by rw [← HM.out, mergeF])
        clear icell' itail' hn' hA
        obtain ⟨jb0, jb1⟩ := HCB.out wr HUW.out
        try dsimp only at jb0 jb1
        have qb : bl' < wr.heap.size := by have := HUW.out.size; omega
        go_wp2_with fail
        refine wp_region_ext (by kernel_rfl) (by kernel_rfl) ?_
        repeat (go_big_quiet_step (fail))
        refine wpQuiet_nil ?_
        intro x1 hx1
        clear jb0 jb1 qb
        replace HS := Lib.hid (HS.out.up hx1)
        replace HT := Lib.hid (HT.out.trans (Up.two hx1 hh1))
        replace HUW := Lib.hid (HUW.out.trans hx1)
        obtain ⟨jb0, jb1⟩ := HCB.out x1 HUW.out
        try dsimp only at jb0 jb1
        have qb : bl' < x1.heap.size := by have := HUW.out.size; omega
        have hh1 : h ≤ x1.heap.size := by have := HS.out.1; obtain ⟨_, _, _, ho⟩ := this; exact ho.2.2.2.2
        clear hx1
        go_wp2_with fail
        refine wp_region_ext (by kernel_rfl) (by kernel_rfl) ?_
        repeat (go_big_quiet_step (fail))
        refine wpQuiet_nil ?_
        intro x2 hx2
        clear jb0 jb1 qb
        replace HS := Lib.hid (HS.out.up hx2)
        replace HT := Lib.hid (HT.out.trans (Up.two hx2 hh1))
        replace HUW := Lib.hid (HUW.out.trans hx2)
        obtain ⟨jb0, jb1⟩ := HCB.out x2 HUW.out
        try dsimp only at jb0 jb1
        have qb : bl' < x2.heap.size := by have := HUW.out.size; omega
        have hh1 : h ≤ x2.heap.size := by have := HS.out.1; obtain ⟨_, _, _, ho⟩ := this; exact ho.2.2.2.2
        clear hx2
        go_wp2_with fail
        refine wp_region_ext_tail 9 (by kernel_rfl) (by kernel_rfl) ?_
        simp only [List.take_succ_cons, List.take_zero, List.drop_succ_cons, List.drop_zero]
        repeat (go_big_quiet_step (fail))
        refine wpQuiet_nil ?_
        intro x3 hx3
        clear jb0 jb1 qb
        replace HS := Lib.hid (HS.out.up hx3)
        replace HT := Lib.hid (HT.out.trans (Up.two hx3 hh1))
        replace HUW := Lib.hid (HUW.out.trans hx3)
        have hh1 : h ≤ x3.heap.size := by have := HS.out.1; obtain ⟨_, _, _, ho⟩ := this; exact ho.2.2.2.2
        clear hx3
        go_wp2_with fail
        refine (lin_Add1 s' 0 b' in64_0 ii' _ h O F K acc HS.out (by have := HL.out; simp only [List.length_cons] at this; omega)).mono ?_
        rintro e y3 ⟨rfl, hS2, hT2⟩
        replace HS := Lib.hid hS2
        replace HT := Lib.hid (HT.out.trans hT2)
        replace HUW := Lib.hid (UpTwo.up HU0.out hO0 hF0 hh0 HT.out)
        clear hS2 hT2
        go_wp2
        go_roundw
        case rel => exact ⟨_, _, _, HA.out, HTB.out, HS.out, HT.out, HM2.out, by have := HL.out; have := stepA_len acc s' 0 b'; simp only [List.length_cons] at *; omega⟩
        case measure => simp [lenV] <;> omega
    | cons m r =>
      obtain ⟨bl, off, cap, rfl, ic1, ic2, ib, ii, icell, itail⟩ := hA.form
      obtain ⟨s, b⟩ := m
      obtain ⟨n, hn⟩ : ∃ n, r.length = n := ⟨_, rfl⟩
      have HAA := Lib.hid hA
      rw [hn] at ic1 ic2 itail
      rw [hn] at HAA ⊢
      have HN := Lib.hid hn
      have lz : (((n : Nat) : Int) + 1 == 0) = false := by simp; omega
      have lp : (0 : Int) < (n : Int) + 1 := by omega
      have HCA := Lib.hid icell
      have HTA := Lib.hid itail
      clear icell itail hn hA
      cases lb with
      | nil =>
        have HB := Lib.hid hB
        obtain ⟨a2, cap2, rfl⟩ := hB.1.slice
        have HM2 : Hid (mergeF r [] (stepA acc s b 0) = res) := Lib.hid (by rw [← HM.out, mergeF])
        clear hB
        obtain ⟨ja0, ja1⟩ := HCA.out wr HUW.out
        try dsimp only at ja0 ja1
        have qa : bl < wr.heap.size := by have := HUW.out.size; omega
        go_wp2_with fail
        refine wp_region_ext (by kernel_rfl) (by kernel_rfl) ?_
        repeat (go_big_quiet_step (fail))
        refine wpQuiet_nil ?_
        intro x4 hx4
        clear ja0 ja1 qa
        replace HS := Lib.hid (HS.out.up hx4)
        replace HT := Lib.hid (HT.out.trans (Up.two hx4 hh1))
        replace HUW := Lib.hid (HUW.out.trans hx4)
        obtain ⟨ja0, ja1⟩ := HCA.out x4 HUW.out
        try dsimp only at ja0 ja1
        have qa : bl < x4.heap.size := by have := HUW.out.size; omega
        have hh1 : h ≤ x4.heap.size := by have := HS.out.1; obtain ⟨_, _, _, ho⟩ := this; exact ho.2.2.2.2
        clear hx4
        go_wp2_with fail
        refine wp_region_ext_tail 9 (by kernel_rfl) (by kernel_rfl) ?_
        simp only [List.take_succ_cons, List.take_zero, List.drop_succ_cons, List.drop_zero]
        repeat (go_big_quiet_step (fail))
        refine wpQuiet_nil ?_
        intro x5 hx5
        clear ja0 ja1 qa
        replace HS := Lib.hid (HS.out.up hx5)
        replace HT := Lib.hid (HT.out.trans (Up.two hx5 hh1))
        replace HUW := Lib.hid (HUW.out.trans hx5)
        have hh1 : h ≤ x5.heap.size := by have := HS.out.1; obtain ⟨_, _, _, ho⟩ := this; exact ho.2.2.2.2
        clear hx5
        go_wp2_with fail
        refine (lin_Add1 s b 0 ii in64_0 _ h O F K acc HS.out (by have := HL.out; simp only [List.length_cons] at this; omega)).mono ?_
        rintro e y5 ⟨rfl, hS2, hT2⟩
        replace HS := Lib.hid hS2
        replace HT := Lib.hid (HT.out.trans hT2)
        replace HUW := Lib.hid (UpTwo.up HU0.out hO0 hF0 hh0 HT.out)
        clear hS2 hT2
        go_wp2
        go_roundw
        case rel => exact ⟨_, _, _, HTA.out, HB.out, HS.out, HT.out, HM2.out, by have := HL.out; have := stepA_len acc s b 0; simp only [List.length_cons] at *; omega⟩
        case measure => simp [lenV] <;> omega
      | cons m' r' =>
        obtain ⟨bl', off', cap', rfl, ic1', ic2', ib', ii', icell', itail'⟩ := hB.form
        obtain ⟨s', b'⟩ := m'
        obtain ⟨n', hn'⟩ : ∃ n, r'.length = n := ⟨_, rfl⟩
        have HBB := Lib.hid hB
        rw [hn'] at ic1' ic2' itail'
        rw [hn'] at HBB ⊢
        have HN' := Lib.hid hn'
        have lz' : (((n' : Nat) : Int) + 1 == 0) = false := by simp; omega
        have lp' : (0 : Int) < (n' : Int) + 1 := by omega
        have HCB := Lib.hid icell'
        have HTB := Lib.hid itail'
        clear icell' itail' hn' hB
        obtain ⟨ja0, ja1⟩ := HCA.out wr HUW.out
        try dsimp only at ja0 ja1
        have qa : bl < wr.heap.size := by have := HUW.out.size; omega
        obtain ⟨jb0, jb1⟩ := HCB.out wr HUW.out
        try dsimp only at jb0 jb1
        have qb : bl' < wr.heap.size := by have := HUW.out.size; omega
        by_cases h1 : Op.bytesLess s.toList s'.toList = true
        · have HM2 : Hid (mergeF r ((s', b') :: r') (stepA acc s b 0) = res) := Lib.hid (by rw [← HM.out, mergeF, if_pos h1])
          go_wp2_with fail
          refine wp_region_ext (by kernel_rfl) (by kernel_rfl) ?_
          repeat (go_big_quiet_step (fail))
          refine wpQuiet_nil ?_
          intro x6 hx6
          clear ja0 ja1 qa jb0 jb1 qb
          replace HS := Lib.hid (HS.out.up hx6)
          replace HT := Lib.hid (HT.out.trans (Up.two hx6 hh1))
          replace HUW := Lib.hid (HUW.out.trans hx6)
          obtain ⟨ja0, ja1⟩ := HCA.out x6 HUW.out
          try dsimp only at ja0 ja1
          have qa : bl < x6.heap.size := by have := HUW.out.size; omega
          obtain ⟨jb0, jb1⟩ := HCB.out x6 HUW.out
          try dsimp only at jb0 jb1
          have qb : bl' < x6.heap.size := by have := HUW.out.size; omega
          have hh1 : h ≤ x6.heap.size := by have := HS.out.1; obtain ⟨_, _, _, ho⟩ := this; exact ho.2.2.2.2
          clear hx6
          go_wp2_with fail
          refine wp_region_ext_tail 9 (by kernel_rfl) (by kernel_rfl) ?_
          simp only [List.take_succ_cons, List.take_zero, List.drop_succ_cons, List.drop_zero]
          repeat (go_big_quiet_step (fail))
          refine wpQuiet_nil ?_
          intro x7 hx7
          clear ja0 ja1 qa jb0 jb1 qb
          replace HS := Lib.hid (HS.out.up hx7)
          replace HT := Lib.hid (HT.out.trans (Up.two hx7 hh1))
          replace HUW := Lib.hid (HUW.out.trans hx7)
          have hh1 : h ≤ x7.heap.size := by have := HS.out.1; obtain ⟨_, _, _, ho⟩ := this; exact ho.2.2.2.2
          clear hx7
          go_wp2_with fail
          refine (lin_Add1 s b 0 ii in64_0 _ h O F K acc HS.out (by have := HL.out; simp only [List.length_cons] at this; omega)).mono ?_
          rintro e y7 ⟨rfl, hS2, hT2⟩
          replace HS := Lib.hid hS2
          replace HT := Lib.hid (HT.out.trans hT2)
          replace HUW := Lib.hid (UpTwo.up HU0.out hO0 hF0 hh0 HT.out)
          clear hS2 hT2
          go_wp2
          go_roundw
          case rel => exact ⟨_, _, _, HTA.out, HBB.out, HS.out, HT.out, HM2.out, by have := HL.out; have := stepA_len acc s b 0; simp only [List.length_cons] at *; omega⟩
          case measure => simp [lenV] <;> omega
        · have h1' : Op.bytesLess s.toList s'.toList = false := by simpa using h1
          by_cases h2 : Op.bytesLess s'.toList s.toList = true
          · have HM2 : Hid (mergeF ((s, b) :: r) r' (stepA acc s' 0 b') = res) := Lib.hid (by rw [← HM.out, mergeF, if_neg h1, if_pos h2])
            go_wp2_with fail
            refine wp_region_ext (by kernel_rfl) (by kernel_rfl) ?_
            repeat (go_big_quiet_step (fail))
            refine wpQuiet_nil ?_
            intro x8 hx8
            clear ja0 ja1 qa jb0 jb1 qb
            replace HS := Lib.hid (HS.out.up hx8)
            replace HT := Lib.hid (HT.out.trans (Up.two hx8 hh1))
            replace HUW := Lib.hid (HUW.out.trans hx8)
            obtain ⟨ja0, ja1⟩ := HCA.out x8 HUW.out
            try dsimp only at ja0 ja1
            have qa : bl < x8.heap.size := by have := HUW.out.size; omega
            obtain ⟨jb0, jb1⟩ := HCB.out x8 HUW.out
            try dsimp only at jb0 jb1
            have qb : bl' < x8.heap.size := by have := HUW.out.size; omega
            have hh1 : h ≤ x8.heap.size := by have := HS.out.1; obtain ⟨_, _, _, ho⟩ := this; exact ho.2.2.2.2
            clear hx8
            go_wp2_with fail
            refine wp_region_ext (by kernel_rfl) (by kernel_rfl) ?_
            repeat (go_big_quiet_step (fail))
            refine wpQuiet_nil ?_
            intro x9 hx9
            clear ja0 ja1 qa jb0 jb1 qb
            replace HS := Lib.hid (HS.out.up hx9)
            replace HT := Lib.hid (HT.out.trans (Up.two hx9 hh1))
            replace HUW := Lib.hid (HUW.out.trans hx9)
            obtain ⟨ja0, ja1⟩ := HCA.out x9 HUW.out
            try dsimp only at ja0 ja1
            have qa : bl < x9.heap.size := by have := HUW.out.size; omega
            obtain ⟨jb0, jb1⟩ := HCB.out x9 HUW.out
            try dsimp only at jb0 jb1
            have qb : bl' < x9.heap.size := by have := HUW.out.size; omega
            have hh1 : h ≤ x9.heap.size := by have := HS.out.1; obtain ⟨_, _, _, ho⟩ := this; exact ho.2.2.2.2
            clear hx9
            go_wp2_with fail
            refine wp_region_ext_tail 9 (by kernel_rfl) (by kernel_rfl) ?_
            simp only [List.take_succ_cons, List.take_zero, List.drop_succ_cons, List.drop_zero]
            repeat (go_big_quiet_step (fail))
            refine wpQuiet_nil ?_
            intro x10 hx10
            clear ja0 ja1 qa jb0 jb1 qb
            replace HS := Lib.hid (HS.out.up hx10)
            replace HT := Lib.hid (HT.out.trans (Up.two hx10 hh1))
            replace HUW := Lib.hid (HUW.out.trans hx10)
            have hh1 : h ≤ x10.heap.size := by have := HS.out.1; obtain ⟨_, _, _, ho⟩ := this; exact ho.2.2.2.2
            clear hx10
            go_wp2_with fail
            refine (lin_Add1 s' 0 b' in64_0 ii' _ h O F K acc HS.out (by have := HL.out; simp only [List.length_cons] at this; omega)).mono ?_
            rintro e y10 ⟨rfl, hS2, hT2⟩
            replace HS := Lib.hid hS2
            replace HT := Lib.hid (HT.out.trans hT2)
            replace HUW := Lib.hid (UpTwo.up HU0.out hO0 hF0 hh0 HT.out)
            clear hS2 hT2
            go_wp2
            go_roundw
            case rel => exact ⟨_, _, _, HAA.out, HTB.out, HS.out, HT.out, HM2.out, by have := HL.out; have := stepA_len acc s' 0 b'; simp only [List.length_cons] at *; omega⟩
            case measure => simp [lenV] <;> omega
          · have h2' : Op.bytesLess s'.toList s.toList = false := by simpa using h2
            have HM2 : Hid (mergeF r r' (stepA acc s b b') = res) := Lib.hid (by rw [← HM.out, mergeF, if_neg h1, if_neg h2])
            go_wp2_with fail
            refine wp_region_ext (by kernel_rfl) (by kernel_rfl) ?_
            repeat (go_big_quiet_step (fail))
            refine wpQuiet_nil ?_
            intro x11 hx11
            clear ja0 ja1 qa jb0 jb1 qb
            replace HS := Lib.hid (HS.out.up hx11)
            replace HT := Lib.hid (HT.out.trans (Up.two hx11 hh1))
            replace HUW := Lib.hid (HUW.out.trans hx11)
            obtain ⟨ja0, ja1⟩ := HCA.out x11 HUW.out
            try dsimp only at ja0 ja1
            have qa : bl < x11.heap.size := by have := HUW.out.size; omega
            obtain ⟨jb0, jb1⟩ := HCB.out x11 HUW.out
            try dsimp only at jb0 jb1
            have qb : bl' < x11.heap.size := by have := HUW.out.size; omega
            have hh1 : h ≤ x11.heap.size := by have := HS.out.1; obtain ⟨_, _, _, ho⟩ := this; exact ho.2.2.2.2
            clear hx11
            go_wp2_with fail
            refine wp_region_ext (by kernel_rfl) (by kernel_rfl) ?_
            repeat (go_big_quiet_step (fail))
            refine wpQuiet_nil ?_
            intro x12 hx12
            clear ja0 ja1 qa jb0 jb1 qb
            replace HS := Lib.hid (HS.out.up hx12)
            replace HT := Lib.hid (HT.out.trans (Up.two hx12 hh1))
            replace HUW := Lib.hid (HUW.out.trans hx12)
            obtain ⟨ja0, ja1⟩ := HCA.out x12 HUW.out
            try dsimp only at ja0 ja1
            have qa : bl < x12.heap.size := by have := HUW.out.size; omega
            obtain ⟨jb0, jb1⟩ := HCB.out x12 HUW.out
            try dsimp only at jb0 jb1
            have qb : bl' < x12.heap.size := by have := HUW.out.size; omega
            have hh1 : h ≤ x12.heap.size := by have := HS.out.1; obtain ⟨_, _, _, ho⟩ := this; exact ho.2.2.2.2
            clear hx12
            go_wp2_with fail
            refine wp_region_ext_tail 13 (by kernel_rfl) (by kernel_rfl) ?_
            simp only [List.take_succ_cons, List.take_zero, List.drop_succ_cons, List.drop_zero]
            repeat (go_big_quiet_step (fail))
            refine wpQuiet_nil ?_
            intro x13 hx13
            clear ja0 ja1 qa jb0 jb1 qb
            replace HS := Lib.hid (HS.out.up hx13)
            replace HT := Lib.hid (HT.out.trans (Up.two hx13 hh1))
            replace HUW := Lib.hid (HUW.out.trans hx13)
            have hh1 : h ≤ x13.heap.size := by have := HS.out.1; obtain ⟨_, _, _, ho⟩ := this; exact ho.2.2.2.2
            clear hx13
            go_wp2_with fail
            refine (lin_Add1 s b b' ii ii' _ h O F K acc HS.out (by have := HL.out; simp only [List.length_cons] at this; omega)).mono ?_
            rintro e y13 ⟨rfl, hS2, hT2⟩
            replace HS := Lib.hid hS2
            replace HT := Lib.hid (HT.out.trans hT2)
            replace HUW := Lib.hid (UpTwo.up HU0.out hO0 hF0 hh0 HT.out)
            clear hS2 hT2
            have hh1 : h ≤ y13.heap.size := by have := HS.out.1; obtain ⟨_, _, _, ho⟩ := this; exact ho.2.2.2.2
            go_wp2_with fail
            refine wp_region_ext (by kernel_rfl) (by kernel_rfl) ?_
            repeat (go_big_quiet_step (fail))
            refine wpQuiet_nil ?_
            intro x14 hx14
            replace HS := Lib.hid (HS.out.up hx14)
            replace HT := Lib.hid (HT.out.trans (Up.two hx14 hh1))
            replace HUW := Lib.hid (HUW.out.trans hx14)
            have hh1 : h ≤ x14.heap.size := by have := HS.out.1; obtain ⟨_, _, _, ho⟩ := this; exact ho.2.2.2.2
            clear hx14
            go_wp2
            go_roundw
            case rel => exact ⟨_, _, _, HTA.out, HTB.out, HS.out, HT.out, HM2.out, by have := HL.out; have := stepA_len acc s b b'; simp only [List.length_cons] at *; omega⟩
            case measure => simp [lenV] <;> omega
end Go.Proofs.YtahlecmlhdikjaaDoor
end

section
namespace Go.Proofs.YtahlecmlhdikjaaDoor
set_option linter.unusedSimpArgs false
open Go.ChangeShapes Go.WideShapes Go.ChangeAt Go.RowKit
set_option linter.unusedVariables false

def addF (K : Int) (l : List Mono) (K' : Int) (l' : List Mono) : Int × List Mono × Int :=
  if okL l && okL l' then
    (if (mergeF l l' ([], fitB (K + K'))).2 then (wrap64 (K + K'), (mergeF l l' ([], fitB (K + K'))).1, 0) else (0, [], 3))
  else (0, [], 1)

theorem own_max {w : World} {base n k : Nat} {e : TypeId} {v : Value} {xs : List Value} (h : w.ownsRow base e k v n xs) : n ≤ 9223372036854775807 := by
  rcases h.2 with ⟨_, rfl⟩ | ⟨g, cap, cur, _, _, _, hnc, hcm, _⟩
  · omega
  · have : maxLen = 9223372036854775807 := rfl
    omega
theorem SlAt.far {w : World} {v : Value} {len k b : Nat} {f : Nat → Nat → Value} (h : SlAt w v len k f) (hb : ∀ a n c, v = .slice (some a) n c → a.block ≠ b) (o : Nat) (u : Value) : SlAt (w.setCell ⟨b, o, none⟩ u) v len k f := by
  obtain ⟨⟨a, cap, hv, h0, h1⟩, h2⟩ := h
  refine ⟨⟨a, cap, hv, h0, fun x hx hl => ?_⟩, h2⟩
  obtain ⟨g1, g2, g3⟩ := h1 x hx hl
  refine ⟨g1, by rw [set_size]; exact g2, fun i j hi hj => ?_⟩
  rw [← g3 i j hi hj]
  exact World.cell?_setCell_other _ _ _ _ (fun e => hb x _ _ (by rw [hv, hx]) (congrArg Addr.block e).symm)

theorem AddAt.new (x : World) (c : Int) (f : Bool) : AddAt ((x.alloc (.cells #[.int .i64 c, .slice none 0 0] 24)).alloc (.cells #[.bool f] 4)) (x.heap.size + 1 + 1) x.heap.size (x.heap.size + 1) c ([], f) := by
  refine ⟨⟨0, none, 0, rfl, (Below.heap_alloc _ _ _ (by rw [size_alloc]; omega)).trans (heap_alloc_new x _), World.ownsRow_nil _ _ _ _, by omega, by rw [size_alloc, size_alloc]; omega⟩, ?_, by omega, by omega⟩
  have := heap_alloc_new (x.alloc (.cells #[.int .i64 c, .slice none 0 0] 24)) (.cells #[.bool f] 4)
  rw [size_alloc] at this; exact this

set_option maxHeartbeats 8000000 in
set_option maxRecDepth 100000 in
theorem lin_AddF (K K' : Int) (v v' : Value) (l l' : List Mono) (w : World) (hv : Part w v l) (hv' : Part w v' l') (hK : In64 K) (hK' : In64 K') (hlen : l.length ≤ 1000) (hlen' : l'.length ≤ 1000) :
    Calls Tryd.prog 57 #[.agg #[.int .i64 K, v], .agg #[.int .i64 K', v']] w fun e w' => LinErrF w e w' (addF K l K' l') ∧ Up w w' := by
  obtain ⟨a, cap, rfl⟩ := hv.1.slice
  obtain ⟨a', cap', rfl⟩ := hv'.1.slice
  obtain ⟨n, hn⟩ : ∃ n, l.length = n := ⟨_, rfl⟩
  obtain ⟨n', hn'⟩ : ∃ n, l'.length = n := ⟨_, rfl⟩
  have HLN : Hid (l.length + l'.length + 0 ≤ 5000) := Lib.hid (by omega)
  rw [hn] at hv hlen ⊢
  rw [hn'] at hv' hlen' ⊢
  have HV := Lib.hid hv
  have HV' := Lib.hid hv'
  obtain ⟨q, hq⟩ : ∃ q, okL l = q := ⟨_, rfl⟩
  obtain ⟨q', hq'⟩ : ∃ q, okL l' = q := ⟨_, rfl⟩
  have HVA : Hid (∀ (w : World) (hv : MonosAt w (.slice a n cap) l), Calls Tryd.prog 45 #[.agg #[.int .i64 K, .slice a n cap]] w fun e w' => e = .returned (.int .i64 (errOf q)) ∧ Up w w') := Lib.hid fun w hv => by
    have := lin_Validate K (.slice a n cap) l w hv
    rw [hq] at this
    exact this
  have HVB : Hid (∀ (w : World) (hv : MonosAt w (.slice a' n' cap') l'), Calls Tryd.prog 45 #[.agg #[.int .i64 K', .slice a' n' cap']] w fun e w' => e = .returned (.int .i64 (errOf q')) ∧ Up w w') := Lib.hid fun w hv => by
    have := lin_Validate K' (.slice a' n' cap') l' w hv
    rw [hq'] at this
    exact this
  obtain ⟨c, hc⟩ : ∃ c, wrap64 (K + K') = c := ⟨_, rfl⟩
  obtain ⟨g, hg⟩ : ∃ g, fitB (K + K') = g := ⟨_, rfl⟩
  have HPL : Hid (∀ w, Calls Tryd.prog 84 #[.int .i64 K, .int .i64 K'] w fun e w' => e = .returned (.tuple #[.int .i64 c, .bool g]) ∧ w' = w) := Lib.hid fun w => by
    have := lin_plus2 K K' hK hK' w
    rw [hc, hg] at this; exact this
  obtain ⟨ml, mf, hm⟩ : ∃ ml mf, mergeF l l' ([], g) = (ml, mf) := ⟨_, _, rfl⟩
  have HMG : Hid (mergeF l l' ([], g) = (ml, mf)) := Lib.hid hm
  have HR : Hid (addF K l K' l' = if q && q' then (if mf then (c, ml, 0) else (0, [], 3)) else (0, [], 1)) := Lib.hid (by unfold addF; rw [hq, hq', hc, hg, hm])
  obtain ⟨r, hr⟩ : ∃ r, addF K l K' l' = r := ⟨_, rfl⟩
  rw [hr] at HR ⊢
  clear hv hv' hn hn' hq hq' hc hg hm hr hK hK'
  go_enter Tryd.func57, Tryd.ntmps57
  go_wp2_with fail
  refine (HVA.out _ (HV.out.1.up ((((Up.refl w).alloc _).alloc _).alloc _))).mono ?_
  rintro e x1 ⟨rfl, hx1⟩
  have hs := hx1.size
  rw [size_alloc, size_alloc, size_alloc] at hs
  have a0 : x1.cell? ⟨w.heap.size, 0, none⟩ = some (.int .i64 K) := (hx1.cell _ _ (by rw [size_alloc, size_alloc, size_alloc]; omega)).trans (by go_simp)
  have a1 : x1.cell? ⟨w.heap.size, 1, none⟩ = some (.slice a n cap) := (hx1.cell _ _ (by rw [size_alloc, size_alloc, size_alloc]; omega)).trans (by go_simp)
  have b0 : x1.cell? ⟨w.heap.size + 1, 0, none⟩ = some (.int .i64 K') := (hx1.cell _ _ (by rw [size_alloc, size_alloc, size_alloc]; omega)).trans (by go_simp)
  have b1 : x1.cell? ⟨w.heap.size + 1, 1, none⟩ = some (.slice a' n' cap') := (hx1.cell _ _ (by rw [size_alloc, size_alloc, size_alloc]; omega)).trans (by go_simp)
  have c0 : x1.cell? ⟨w.heap.size + 1 + 1, 0, none⟩ = some (.int .i64 0) := (hx1.cell _ _ (by rw [size_alloc, size_alloc, size_alloc]; omega)).trans (by go_simp)
  have c1 : x1.cell? ⟨w.heap.size + 1 + 1, 1, none⟩ = some (.slice none 0 0) := (hx1.cell _ _ (by rw [size_alloc, size_alloc, size_alloc]; omega)).trans (by go_simp)
  have cf : ∀ o, x1.frozen? ⟨w.heap.size + 1 + 1, o, none⟩ = false := fun o => (hx1.frozen _ _ (by rw [size_alloc, size_alloc, size_alloc]; omega)).trans (by go_simp)
  have HU1 := Lib.hid (((((Up.refl w).alloc (.cells #[.int .i64 K, .slice a n cap] 24)).alloc (.cells #[.int .i64 K', .slice a' n' cap'] 24)).alloc (.cells #[.int .i64 0, .slice none 0 0] 24)).trans hx1)
  clear hx1
  have hset : ∀ (x : World) (v : Value) (o : Nat), Up w x → Up w (x.setCell ⟨w.heap.size + 1 + 1, o, none⟩ v) := fun x v o u => u.setCell (by show w.heap.size ≤ w.heap.size + 1 + 1; omega) v
  have HSET := Lib.hid hset
  clear hset
  have q0 : w.heap.size < x1.heap.size := by omega
  have q1 : w.heap.size + 1 < x1.heap.size := by omega
  have q2 : w.heap.size + 1 + 1 < x1.heap.size := by omega
  cases q
  · rw [show errOf false = 1 from rfl]
    have hr2 : r = (0, [], 1) := by rw [HR.out]; rfl
    have HR2 := Lib.hid hr2
    clear hr2
    go_wp2
    refine bodyPost_ret (v := .tuple #[.agg #[.int .i64 0, .slice none 0 0], .int .i64 1]) (by simp [results, Tryd.results57, go_sem, c0, c1]) rfl ?_
    rw [HR2.out]
    exact ⟨⟨_, rfl, monos_nil _, cap_nil, fresh_nil w⟩, by repeat (first | exact HU1.out | refine HSET.out _ _ _ ?_)⟩
  rw [show errOf true = 0 from rfl]
  go_wp2_with fail
  refine (HVB.out _ (HV'.out.1.up HU1.out)).mono ?_
  rintro e x2 ⟨rfl, hx2⟩
  have hs2 := hx2.size
  have a0' := (hx2.cell _ _ q0).trans a0
  have a1' := (hx2.cell _ _ q0).trans a1
  have b0' := (hx2.cell _ _ q1).trans b0
  have b1' := (hx2.cell _ _ q1).trans b1
  have c0' := (hx2.cell _ _ q2).trans c0
  have c1' := (hx2.cell _ _ q2).trans c1
  have cf' := fun o => (hx2.frozen _ _ q2).trans (cf o)
  replace HU1 := Lib.hid (HU1.out.trans hx2)
  have p0 : w.heap.size < x2.heap.size := by omega
  have p1 : w.heap.size + 1 < x2.heap.size := by omega
  have p2 : w.heap.size + 1 + 1 < x2.heap.size := by omega
  clear hx2 a0 a1 b0 b1 c0 c1 cf q0 q1 q2 hs hs2
  cases q'
  · rw [show errOf false = 1 from rfl]
    have hr2 : r = (0, [], 1) := by rw [HR.out]; rfl
    have HR2 := Lib.hid hr2
    clear hr2
    go_wp2
    refine bodyPost_ret (v := .tuple #[.agg #[.int .i64 0, .slice none 0 0], .int .i64 1]) (by simp [results, Tryd.results57, go_sem, c0', c1']) rfl ?_
    rw [HR2.out]
    exact ⟨⟨_, rfl, monos_nil _, cap_nil, fresh_nil w⟩, by repeat (first | exact HU1.out | refine HSET.out _ _ _ ?_)⟩
  rw [show errOf true = 0 from rfl]
  have HRR : Hid (r = if mf then (c, ml, 0) else (0, [], 3)) := Lib.hid (by rw [HR.out]; rfl)
  clear HR
  go_wp2_with fail
  refine (HPL.out _).mono ?_
  rintro e x3 ⟨rfl, hx3⟩
  replace hx3 := hx3.symm
  subst hx3
  have HAD := Lib.hid (AddAt.new x2 c g)
  go_wp2_with fail
  refine (lin_merge w _ _ l l' HV.out HV'.out _ ((HU1.out.alloc _).alloc _) (x2.heap.size + 1 + 1) x2.heap.size (x2.heap.size + 1) (by omega) (by omega) (by omega) c ([], g) HAD.out HLN.out).mono ?_
  rintro e x4 ⟨rfl, hS, hT⟩
  rw [HMG.out] at hS
  have HU4 := Lib.hid (UpTwo.up ((HU1.out.alloc _).alloc _) (by omega) (by omega) (by omega) hT)
  obtain ⟨⟨n4, a4, cap4, hO⟩, hF, _, _⟩ := hS
  dsimp only at hO hF
  have d0 : x4.cell? ⟨w.heap.size + 1 + 1, 0, none⟩ = some (.int .i64 0) := ((hT.cell _ _ (by omega) (by omega) (by omega)).trans ((((Up.refl x2).alloc _).alloc _).cell _ _ p2)).trans c0'
  have d1 : x4.cell? ⟨w.heap.size + 1 + 1, 1, none⟩ = some (.slice none 0 0) := ((hT.cell _ _ (by omega) (by omega) (by omega)).trans ((((Up.refl x2).alloc _).alloc _).cell _ _ p2)).trans c1'
  have df : ∀ o, x4.frozen? ⟨w.heap.size + 1 + 1, o, none⟩ = false := fun o => by
    have h1 := hT.block (w.heap.size + 1 + 1) (by omega) (by omega) (by omega)
    have h2 := ((((Up.refl x2).alloc (.cells #[.int .i64 c, .slice none 0 0] 24)).alloc (.cells #[.bool g] 4)).frozen _ o p2).trans (cf' o)
    unfold World.frozen? at h2 ⊢
    rw [h1]; exact h2
  have z0 : x4.cell? ⟨x2.heap.size + 1, 0, none⟩ = some (.bool mf) := cell_of_row _ _ _ _ _ _ hF
  obtain ⟨o0, o1, of, ol⟩ := hO.cells
  have hs4 := hO.2.2.2.2
  have y0 : x2.heap.size < x4.heap.size := by omega
  have y1 : x2.heap.size + 1 < x4.heap.size := by omega
  have y2 : w.heap.size + 1 + 1 < x4.heap.size := by omega
  have HO := Lib.hid hO
  have HP2 := Lib.hid p2
  clear hT hF hO a0' a1' b0' b1' c0' c1' cf' HAD
  cases mf
  · have hr2 : r = (0, [], 3) := by rw [HRR.out]; rfl
    have HR2 := Lib.hid hr2
    clear hr2
    go_wp2
    refine bodyPost_ret (v := .tuple #[.agg #[.int .i64 0, .slice none 0 0], .int .i64 3]) (by simp [results, Tryd.results57, go_sem, d0, d1]) rfl ?_
    rw [HR2.out]
    exact ⟨⟨_, rfl, monos_nil _, cap_nil, fresh_nil w⟩, by repeat (first | exact HU4.out | refine HSET.out _ _ _ ?_)⟩
  · have hr2 : r = (c, ml, 0) := by rw [HRR.out]; rfl
    have HR2 := Lib.hid hr2
    clear hr2
    go_wp2
    refine bodyPost_ret (v := .tuple #[.agg #[.int .i64 c, .slice a4 n4 cap4], .int .i64 0]) (by simp [results, Tryd.results57, go_sem, d0, d1]) rfl ?_
    rw [HR2.out]
    refine ⟨⟨.slice a4 n4 cap4, rfl, ?_, own_cap HO.out.2.2.1, own_fresh HO.out.2.2.1 (by have := HP2.out; omega)⟩, by repeat (first | exact HU4.out | refine HSET.out _ _ _ ?_)⟩
    have hoo := HO.out
    have hle : n4 = ml.length := hoo.1
    show SlAt _ _ ml.length 2 _
    rw [← hle]
    refine SlAt.of_own (base := x2.heap.size + 1 + 1) (e := 56) (xs := monoCells ml) ?_ (own_max hoo.2.2.1) (fun i j hi hj => monoCells_get _ i j (by omega) hj)
    repeat (first | exact hoo.2.2.1 | refine ownsRow_setCell_below ?_ (by show w.heap.size + 1 + 1 < x2.heap.size + 1 + 1; omega) _)

theorem lin_Add (K K' : Int) (v v' : Value) (l l' : List Mono) (w : World) (hv : Part w v l) (hv' : Part w v' l') (hK : In64 K) (hK' : In64 K') (hlen : l.length ≤ 1000) (hlen' : l'.length ≤ 1000) :
    Calls Tryd.prog 57 #[.agg #[.int .i64 K, v], .agg #[.int .i64 K', v']] w fun e w' => LinErr e w' (addF K l K' l') ∧ Up w w' :=
  (lin_AddF K K' v v' l l' w hv hv' hK hK' hlen hlen').mono fun e w' ⟨⟨x, h1, h2, h3, _⟩, hu⟩ => ⟨⟨x, h1, h2, h3⟩, hu⟩
end Go.Proofs.YtahlecmlhdikjaaDoor
end

section
namespace Go.Proofs.YtahlecmlhdikjaaDoor
set_option linter.unusedSimpArgs false
open Go.ChangeShapes Go.WideShapes Go.ChangeAt Go.RowKit
set_option linter.unusedVariables false

def byF (s : List UInt8) : List Mono → Int → Int
  | [], a => a
  | m :: r, a => byF s r (if m.1.toList == s then m.2 else a)
def restL (s : List UInt8) (l : List Mono) : List Mono := l.filter fun m => !(m.1.toList == s)
def substF (K : Int) (l : List Mono) (s : List UInt8) (K' : Int) (l' : List Mono) : Int × List Mono × Int :=
  if okL l && nameB s && okL l' then
    (if (scaleF K' l' (byF s l 0)).2.2 ≠ 0 then (0, [], (scaleF K' l' (byF s l 0)).2.2)
      else addF K (restL s l) (scaleF K' l' (byF s l 0)).1 (scaleF K' l' (byF s l 0)).2.1)
  else (0, [], 1)

theorem mulR_in64 (a b : Int) : In64 (mulR a b).1 := by
  unfold mulR
  cases h : fitB (a * b)
  · exact (⟨by decide, by decide⟩ : In64 0)
  · unfold fitB at h; simp at h; exact h
theorem outL_rng (y : Int) (l : List Mono) : Rng (outL y l) := fun k hk => by
  have hk' : k < l.length := by simpa [outL] using hk
  have : (outL y l).getD k m0 = ((l.getD k m0).1, (mulR (l.getD k m0).2 y).1) := by
    unfold outL
    rw [List.getD_eq_getElem?_getD, List.getElem?_map, List.getD_eq_getElem?_getD, List.getElem?_eq_getElem hk']; rfl
  rw [this]
  exact mulR_in64 _ _
theorem scaleF_facts (K : Int) (l : List Mono) (y : Int) : In64 (scaleF K l y).1 ∧ Rng (scaleF K l y).2.1 ∧ (scaleF K l y).2.1.length ≤ l.length := by
  have h0 : In64 0 := ⟨by decide, by decide⟩
  have hn : Rng [] := fun k hk => absurd hk (by simp)
  unfold scaleF
  split
  · split
    · exact ⟨h0, hn, by simp⟩
    · split
      · rename_i h
        have hf := (Bool.and_eq_true_iff.1 h).1
        unfold fitB at hf; simp at hf
        exact ⟨hf, outL_rng y l, by simp [outL]⟩
      · exact ⟨h0, hn, by simp⟩
  · exact ⟨h0, hn, by simp⟩
theorem restL_snoc (s : List UInt8) (l : List Mono) (m : Mono) : restL s (l ++ [m]) = restL s l ++ (if m.1.toList == s then [] else [m]) := by
  unfold restL
  rw [List.filter_append]
  congr 1
  cases h : (m.1.toList == s) <;> simp [List.filter, h]
theorem restL_rng {s : List UInt8} {l : List Mono} (h : ∀ m ∈ l, In64 m.2) : Rng (restL s l) := fun k hk => by
  have : (restL s l).getD k m0 ∈ restL s l := by
    rw [List.getD_eq_getElem?_getD, List.getElem?_eq_getElem hk]; exact List.getElem_mem hk
  exact h _ (List.mem_filter.1 this).1
theorem Rng.mem {l : List Mono} (h : Rng l) : ∀ m ∈ l, In64 m.2 := fun m hm => by
  obtain ⟨k, hk, rfl⟩ := List.getElem_of_mem hm
  have := h k hk
  rw [List.getD_eq_getElem?_getD, List.getElem?_eq_getElem hk] at this
  exact this

end Go.Proofs.YtahlecmlhdikjaaDoor
end

section
namespace Go.Proofs.YtahlecmlhdikjaaDoor
set_option linter.unusedSimpArgs false
open Go.ChangeShapes Go.WideShapes Go.ChangeAt Go.RowKit
set_option linter.unusedVariables false

def nearB (n : Int) : Bool := decide (-1048576 ≤ n) && decide (n ≤ 1048576)
def nearAll (l : List Mono) : Bool := l.all fun m => nearB m.2
end Go.Proofs.YtahlecmlhdikjaaDoor
end

section
namespace Go.Proofs.YtahlecmlhdikjaaDoor
open Go.RowKit
set_option linter.unusedVariables false
set_option linter.unusedSimpArgs false

theorem u8_tri (a b : UInt8) : a < b ∨ a = b ∨ b < a := by
  rcases Nat.lt_trichotomy a.toNat b.toNat with h | h | h
  · exact Or.inl (UInt8.lt_iff_toNat_lt.2 h)
  · exact Or.inr (Or.inl (UInt8.toNat_inj.1 h))
  · exact Or.inr (Or.inr (UInt8.lt_iff_toNat_lt.2 h))
theorem u8_asymm {a b : UInt8} (h : a < b) : ¬ b < a := fun g => by
  have := UInt8.lt_iff_toNat_lt.1 h
  have := UInt8.lt_iff_toNat_lt.1 g
  omega
theorem u8_trans {a b c : UInt8} (h : a < b) (g : b < c) : a < c := UInt8.lt_iff_toNat_lt.2 (Nat.lt_trans (UInt8.lt_iff_toNat_lt.1 h) (UInt8.lt_iff_toNat_lt.1 g))
theorem u8_irrefl (a : UInt8) : ¬ a < a := fun g => by have := UInt8.lt_iff_toNat_lt.1 g; omega

theorem bl_iff (a b : UInt8) (x y : List UInt8) : Op.bytesLess (a :: x) (b :: y) = true ↔ a < b ∨ (a = b ∧ Op.bytesLess x y = true) := by
  simp [Op.bytesLess]
theorem bl_irrefl : ∀ x : List UInt8, Op.bytesLess x x = false
  | [] => rfl
  | a :: x => by
    rw [← Bool.not_eq_true, bl_iff]
    rintro (h | ⟨_, h⟩)
    · exact u8_irrefl a h
    · rw [bl_irrefl x] at h; cases h
theorem bl_asymm : ∀ x y : List UInt8, Op.bytesLess x y = true → Op.bytesLess y x = false
  | [], [], h => by cases h
  | [], _ :: _, _ => rfl
  | _ :: _, [], h => by cases h
  | a :: x, b :: y, h => by
    rw [← Bool.not_eq_true, bl_iff]
    rcases (bl_iff a b x y).1 h with h1 | ⟨rfl, h1⟩
    · rintro (g | ⟨rfl, _⟩)
      · exact u8_asymm h1 g
      · exact u8_irrefl _ h1
    · rintro (g | ⟨_, g⟩)
      · exact u8_irrefl _ g
      · rw [bl_asymm x y h1] at g; cases g
theorem bl_total : ∀ x y : List UInt8, Op.bytesLess x y = false → Op.bytesLess y x = false → x = y
  | [], [], _, _ => rfl
  | [], _ :: _, h, _ => by cases h
  | _ :: _, [], _, h => by cases h
  | a :: x, b :: y, h, g => by
    rw [← Bool.not_eq_true, bl_iff] at h g
    rcases u8_tri a b with k | rfl | k
    · exact absurd (Or.inl k) h
    · rw [bl_total x y (by rw [← Bool.not_eq_true]; exact fun e => h (Or.inr ⟨rfl, e⟩)) (by rw [← Bool.not_eq_true]; exact fun e => g (Or.inr ⟨rfl, e⟩))]
    · exact absurd (Or.inl k) g
theorem bl_trans : ∀ x y z : List UInt8, Op.bytesLess x y = true → Op.bytesLess y z = true → Op.bytesLess x z = true
  | _, [], _, h, _ => by simp [Op.bytesLess] at h
  | _, _ :: _, [], _, h => by cases h
  | [], _ :: _, _ :: _, _, _ => rfl
  | a :: x, b :: y, c :: z, h, g => by
    rw [bl_iff] at h g ⊢
    rcases h with h | ⟨rfl, h⟩
    · rcases g with g | ⟨rfl, g⟩
      · exact Or.inl (u8_trans h g)
      · exact Or.inl h
    · rcases g with g | ⟨rfl, g⟩
      · exact Or.inl g
      · exact Or.inr ⟨rfl, bl_trans x y z h g⟩

def putM (s : ByteArray) (c : Int) (r : List Mono) : List Mono := if c = 0 then r else (s, c) :: r
def sumM : List Mono → List Mono → List Mono
  | [], [] => []
  | m :: r, [] => putM m.1 m.2 (sumM r [])
  | [], m' :: r' => putM m'.1 m'.2 (sumM [] r')
  | m :: r, m' :: r' =>
    if Op.bytesLess m.1.toList m'.1.toList then putM m.1 m.2 (sumM r (m' :: r'))
    else if Op.bytesLess m'.1.toList m.1.toList then putM m'.1 m'.2 (sumM (m :: r) r')
    else putM m.1 (m.2 + m'.2) (sumM r r')
termination_by l l' => l.length + l'.length

theorem near_iff (n : Int) : nearB n = true ↔ -1048576 ≤ n ∧ n ≤ 1048576 := by simp [nearB]
theorem nearAll_cons (m : Mono) (l : List Mono) : nearAll (m :: l) = true ↔ nearB m.2 = true ∧ nearAll l = true := by simp [nearAll]

theorem stepA_near (acc : List Mono × Bool) (s : ByteArray) (x y : Int) (hx : -1048576 ≤ x ∧ x ≤ 1048576) (hy : -1048576 ≤ y ∧ y ≤ 1048576) :
    stepA acc s x y = (acc.1 ++ putM s (x + y) [], acc.2) := by
  have hw : wrap64 (x + y) = x + y := by unfold wrap64; omega
  have hf : fitB (x + y) = true := fit_true (by omega)
  unfold stepA putM
  rw [hw, hf, Bool.and_true]
  split <;> simp
theorem put_app (s : ByteArray) (c : Int) (l r : List Mono) : l ++ putM s c r = l ++ putM s c [] ++ r := by
  unfold putM; split <;> simp

theorem merge_sum (l l' : List Mono) (acc : List Mono × Bool) (h : nearAll l = true) (h' : nearAll l' = true) : mergeF l l' acc = (acc.1 ++ sumM l l', acc.2) := by
  induction l, l', acc using mergeF.induct with
  | case1 acc => rw [mergeF, sumM]; simp
  | case2 m r acc ih =>
    obtain ⟨h1, h2⟩ := (nearAll_cons _ _).1 h
    rw [mergeF, ih h2 h', stepA_near _ _ _ _ ((near_iff _).1 h1) ⟨by omega, by omega⟩, sumM, Int.add_zero]
    exact Prod.ext (put_app _ _ _ _).symm rfl
  | case3 m' r' acc ih =>
    obtain ⟨h1, h2⟩ := (nearAll_cons _ _).1 h'
    rw [mergeF, ih h h2, stepA_near _ _ _ _ ⟨by omega, by omega⟩ ((near_iff _).1 h1), sumM, Int.zero_add]
    exact Prod.ext (put_app _ _ _ _).symm rfl
  | case4 m r m' r' acc hc ih =>
    obtain ⟨h1, h2⟩ := (nearAll_cons _ _).1 h
    rw [mergeF, if_pos hc, ih h2 h', stepA_near _ _ _ _ ((near_iff _).1 h1) ⟨by omega, by omega⟩, sumM, if_pos hc, Int.add_zero]
    exact Prod.ext (put_app _ _ _ _).symm rfl
  | case5 m r m' r' acc hc hd ih =>
    obtain ⟨h1, h2⟩ := (nearAll_cons _ _).1 h'
    rw [mergeF, if_neg hc, if_pos hd, ih h h2, stepA_near _ _ _ _ ⟨by omega, by omega⟩ ((near_iff _).1 h1), sumM, if_neg hc, if_pos hd, Int.zero_add]
    exact Prod.ext (put_app _ _ _ _).symm rfl
  | case6 m r m' r' acc hc hd ih =>
    obtain ⟨h1, h2⟩ := (nearAll_cons _ _).1 h
    obtain ⟨h3, h4⟩ := (nearAll_cons _ _).1 h'
    rw [mergeF, if_neg hc, if_neg hd, ih h2 h4, stepA_near _ _ _ _ ((near_iff _).1 h1) ((near_iff _).1 h3), sumM, if_neg hc, if_neg hd]
    exact Prod.ext (put_app _ _ _ _).symm rfl

theorem name_eq {s t : ByteArray} (h : ¬ Op.bytesLess s.toList t.toList = true) (g : ¬ Op.bytesLess t.toList s.toList = true) : s = t :=
  toList_inj (bl_total _ _ (by simpa using h) (by simpa using g))

theorem sumM_comm (l l' : List Mono) : sumM l l' = sumM l' l := by
  induction l, l' using sumM.induct with
  | case1 => rfl
  | case2 m r ih => rw [sumM, sumM, ih]
  | case3 m' r' ih => rw [sumM, sumM, ih]
  | case4 m r m' r' hc ih =>
    have := bl_asymm _ _ hc
    rw [sumM, if_pos hc, ih]
    conv => rhs; rw [sumM, if_neg (by rw [this]; simp), if_pos hc]
  | case5 m r m' r' hc hd ih =>
    rw [sumM, if_neg hc, if_pos hd, ih]
    conv => rhs; rw [sumM, if_pos hd]
  | case6 m r m' r' hc hd ih =>
    have := name_eq hc hd
    rw [sumM, if_neg hc, if_neg hd, ih]
    conv => rhs; rw [sumM, if_neg hd, if_neg hc]
    rw [this, Int.add_comm]

theorem sumE_cons (env : List Mono) (m : Mono) (r : List Mono) (a : Int) : sumE env (m :: r) a = match lookE env m.1.toList with | none => none | some v => sumE env r (a + m.2 * v) := rfl
theorem sumE_put (env : List Mono) (s : ByteArray) (c v : Int) (r : List Mono) (a : Int) (h : lookE env s.toList = some v) : sumE env (putM s c r) a = sumE env r (a + c * v) := by
  unfold putM
  split
  · rename_i e; rw [e, Int.zero_mul, Int.add_zero]
  · rw [sumE_cons]; simp only [h]
theorem sumE_some {env : List Mono} {m : Mono} {r : List Mono} {a u : Int} (h : sumE env (m :: r) a = some u) : ∃ v, lookE env m.1.toList = some v ∧ sumE env r (a + m.2 * v) = some u := by
  rw [sumE_cons] at h
  cases hl : lookE env m.1.toList with
  | none => rw [hl] at h; cases h
  | some v => rw [hl] at h; exact ⟨v, rfl, h⟩

theorem sum_sumM (env : List Mono) (l l' : List Mono) : ∀ a a' u u' : Int, sumE env l a = some u → sumE env l' a' = some u' → sumE env (sumM l l') (a + a') = some (u + u') := by
  induction l, l' using sumM.induct with
  | case1 =>
    intro a a' u u' h h'
    have h1 : some a = some u := h
    have h2 : some a' = some u' := h'
    cases h1; cases h2
    rw [sumM]; rfl
  | case2 m r ih =>
    intro a a' u u' h h'
    obtain ⟨v, h1, h2⟩ := sumE_some h
    rw [sumM, sumE_put _ _ _ _ _ _ h1, ← ih _ _ _ _ h2 h']
    congr 1; omega
  | case3 m' r' ih =>
    intro a a' u u' h h'
    obtain ⟨v, h1, h2⟩ := sumE_some h'
    rw [sumM, sumE_put _ _ _ _ _ _ h1, ← ih _ _ _ _ h h2]
    congr 1; omega
  | case4 m r m' r' hc ih =>
    intro a a' u u' h h'
    obtain ⟨v, h1, h2⟩ := sumE_some h
    rw [sumM, if_pos hc, sumE_put _ _ _ _ _ _ h1, ← ih _ _ _ _ h2 h']
    congr 1; omega
  | case5 m r m' r' hc hd ih =>
    intro a a' u u' h h'
    obtain ⟨v, h1, h2⟩ := sumE_some h'
    rw [sumM, if_neg hc, if_pos hd, sumE_put _ _ _ _ _ _ h1, ← ih _ _ _ _ h h2]
    congr 1; omega
  | case6 m r m' r' hc hd ih =>
    intro a a' u u' h h'
    obtain ⟨v, h1, h2⟩ := sumE_some h
    obtain ⟨v', h3, h4⟩ := sumE_some h'
    have e := name_eq hc hd
    rw [← e, h1] at h3
    cases h3
    rw [sumM, if_neg hc, if_neg hd, sumE_put _ _ _ _ _ _ h1, ← ih _ _ _ _ h2 h4]
    congr 1
    rw [Int.add_mul]; omega

theorem okFrom_cons (p : Option (List UInt8)) (m : Mono) (r : List Mono) : okFrom p (m :: r) = true ↔ nameB m.1.toList = true ∧ m.2 ≠ 0 ∧ prevOk p m.1.toList = true ∧ okFrom (some m.1.toList) r = true := by
  obtain ⟨s, b⟩ := m
  show (nameB s.toList && decide (b ≠ 0) && prevOk p s.toList && okFrom (some s.toList) r) = true ↔ _
  simp [and_assoc]
theorem prev_trans {p : Option (List UInt8)} {s t : List UInt8} (h : prevOk p s = true) (g : Op.bytesLess s t = true) : prevOk p t = true := by
  cases p with
  | none => rfl
  | some q => exact bl_trans q s t h g
theorem okFrom_weak {p : Option (List UInt8)} {s : List UInt8} (h : prevOk p s = true) : ∀ r : List Mono, okFrom (some s) r = true → okFrom p r = true
  | [], _ => rfl
  | m :: r, g => by
    obtain ⟨h1, h2, h3, h4⟩ := (okFrom_cons _ _ _).1 g
    exact (okFrom_cons _ _ _).2 ⟨h1, h2, prev_trans h h3, h4⟩
theorem okFrom_put {p : Option (List UInt8)} {s : ByteArray} {c : Int} {r : List Mono} (h1 : nameB s.toList = true) (h2 : prevOk p s.toList = true) (h3 : okFrom (some s.toList) r = true) : okFrom p (putM s c r) = true := by
  unfold putM
  split
  · exact okFrom_weak h2 r h3
  · rename_i e
    exact (okFrom_cons _ _ _).2 ⟨h1, e, h2, h3⟩

theorem ok_sumM (l l' : List Mono) : ∀ p, okFrom p l = true → okFrom p l' = true → okFrom p (sumM l l') = true := by
  induction l, l' using sumM.induct with
  | case1 => intro p _ _; rw [sumM]; rfl
  | case2 m r ih =>
    intro p h h'
    obtain ⟨h1, h2, h3, h4⟩ := (okFrom_cons _ _ _).1 h
    rw [sumM]
    exact okFrom_put h1 h3 (ih _ h4 rfl)
  | case3 m' r' ih =>
    intro p h h'
    obtain ⟨h1, h2, h3, h4⟩ := (okFrom_cons _ _ _).1 h'
    rw [sumM]
    exact okFrom_put h1 h3 (ih _ rfl h4)
  | case4 m r m' r' hc ih =>
    intro p h h'
    obtain ⟨h1, h2, h3, h4⟩ := (okFrom_cons _ _ _).1 h
    obtain ⟨g1, g2, g3, g4⟩ := (okFrom_cons _ _ _).1 h'
    rw [sumM, if_pos hc]
    exact okFrom_put h1 h3 (ih _ h4 ((okFrom_cons _ _ _).2 ⟨g1, g2, hc, g4⟩))
  | case5 m r m' r' hc hd ih =>
    intro p h h'
    obtain ⟨h1, h2, h3, h4⟩ := (okFrom_cons _ _ _).1 h
    obtain ⟨g1, g2, g3, g4⟩ := (okFrom_cons _ _ _).1 h'
    rw [sumM, if_neg hc, if_pos hd]
    exact okFrom_put g1 g3 (ih _ ((okFrom_cons _ _ _).2 ⟨h1, h2, hd, h4⟩) g4)
  | case6 m r m' r' hc hd ih =>
    intro p h h'
    obtain ⟨h1, h2, h3, h4⟩ := (okFrom_cons _ _ _).1 h
    obtain ⟨g1, g2, g3, g4⟩ := (okFrom_cons _ _ _).1 h'
    have e := name_eq hc hd
    rw [← e] at g4
    rw [sumM, if_neg hc, if_neg hd]
    exact okFrom_put h1 h3 (ih _ h4 g4)
end Go.Proofs.YtahlecmlhdikjaaDoor
end
