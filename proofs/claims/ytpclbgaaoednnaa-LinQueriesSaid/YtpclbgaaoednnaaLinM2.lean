/-
  Add of the program's side: merge.
-/
import Derived.Test.YtpclbgaaoednnaaLinM
namespace Go.Proofs.Ytpclbgaaoednnaa
open Go.ChangeShapes Go.WideShapes Go.ChangeAt Go.RowKit
set_option linter.unusedVariables false

def mergeF : List Mono → List Mono → List Mono × Bool → List Mono × Bool
  | [], [], acc => acc
  | m :: r, [], acc => mergeF r [] (stepA acc m.1 m.2 0)
  | [], m' :: r', acc => mergeF [] r' (stepA acc m'.1 0 m'.2)
  | m :: r, m' :: r', acc =>
    if Op.bytesLess m.1.toList m'.1.toList then mergeF r (m' :: r') (stepA acc m.1 m.2 0)
    else if Op.bytesLess m'.1.toList m.1.toList then mergeF (m :: r) r' (stepA acc m'.1 0 m'.2)
    else mergeF r r' (stepA acc m.1 m.2 m'.2)
termination_by l l' _ => l.length + l'.length

def lenV (v : Value) : Nat := match v with
  | .slice _ n _ => n
  | _ => 0

/-- A list as it stands for merge: its cells, in a world that was there before; its length, its capacity, its numbers. -/
def Part (w0 : World) (v : Value) (l : List Mono) : Prop := MonosAt w0 v l ∧ Rng l ∧ CapOk v

theorem Part.nil (w : World) (a : Option Addr) (cap : Nat) : Part w (.slice a 0 cap) [] :=
  ⟨⟨⟨a, cap, rfl, (fun _ => rfl), fun x hx hl => absurd hl (by simp)⟩, by decide⟩, fun k hk => absurd hk (by simp), ⟨_, _, _, rfl, by omega⟩⟩
theorem Part.form {w0 : World} {v : Value} {m : Mono} {l : List Mono} (h : Part w0 v (m :: l)) :
    ∃ bl off cap, v = .slice (some ⟨bl, off, none⟩) (l.length + 1) cap ∧ l.length + 1 ≤ cap ∧ l.length + 1 ≤ 9223372036854775807 ∧ bl < w0.heap.size ∧ In64 m.2 ∧ (∀ w, Up w0 w → w.cell? ⟨bl, off, none⟩ = some (.string m.1) ∧ w.cell? ⟨bl, off + 1, none⟩ = some (.int .i64 m.2)) ∧
      Part w0 (.slice (if cap = 1 then some ⟨bl, off, none⟩ else some ⟨bl, off + 2, none⟩) l.length (cap - 1)) l := by
  obtain ⟨hm, hr, ⟨a, n, c, rfl, hnc⟩⟩ := h
  obtain ⟨⟨a', cap, hv, h0, hc⟩, hmax⟩ := hm
  simp only [Value.slice.injEq] at hv
  obtain ⟨rfl, rfl, rfl⟩ := hv
  simp only [List.length_cons] at hnc hmax h0 hc
  cases a with
  | none => exact absurd (h0 rfl) (by omega)
  | some x =>
    obtain ⟨g1, g2, g3⟩ := hc x rfl (by omega)
    obtain ⟨bl, off, sp⟩ := x
    have g1' : sp = none := g1
    subst g1'
    have g2' : bl < w0.heap.size := g2
    have hi : In64 m.2 := hr 0 (by simp)
    refine ⟨bl, off, c, rfl, hnc, hmax, g2', hi, fun w u => ⟨?_, ?_⟩, ⟨⟨⟨_, c - 1, rfl, ?_, fun x hx hl => ?_⟩, by omega⟩, fun k hk => ?_, ⟨_, _, _, rfl, by omega⟩⟩⟩
    · have := g3 0 0 (by omega) (by omega)
      simp only [Nat.zero_mul, Nat.add_zero] at this
      exact (u.cell _ _ g2').trans this
    · have := g3 0 1 (by omega) (by omega)
      simp only [Nat.zero_mul, Nat.add_zero] at this
      exact (u.cell _ _ g2').trans this
    · intro e
      split at e <;> cases e
    · rw [if_neg (by omega)] at hx
      cases hx
      refine ⟨rfl, g2', fun i j hi hj => ?_⟩
      have := g3 (i + 1) j (by omega) hj
      rw [show off + (i + 1) * 2 + j = off + 2 + i * 2 + j by omega] at this
      exact this
    · exact hr (k + 1) (by simpa using hk)

theorem stepA_len (acc : List Mono × Bool) (s : ByteArray) (x y : Int) : (stepA acc s x y).1.length ≤ acc.1.length + 1 := by
  unfold stepA
  split
  · simp
  · simp
theorem in64_0 : In64 0 := ⟨by omega, by omega⟩

set_option maxHeartbeats 8000000 in
set_option maxRecDepth 100000 in
theorem lin_merge (w0 : World) (v v' : Value) (l l' : List Mono) (hv : Part w0 v l) (hv' : Part w0 v' l') (w : World) (hU : Up w0 w) (h O F : Nat) (hO0 : w0.heap.size ≤ O) (hF0 : w0.heap.size ≤ F) (hh0 : w0.heap.size ≤ h) (K : Int) (r : List Mono × Bool) (hp : AddAt w h O F K r) (hlen : l.length + l'.length + r.1.length ≤ 5000) :
    Calls Try.prog 59 #[v, v', .func (.func 60) #[] #[.pointer (some ⟨F, 0, none⟩), .pointer (some ⟨O, 0, none⟩)]] w fun e w' => e = .returned (.tuple #[]) ∧ AddAt w' h O F K (mergeF l l' r) ∧ UpTwo h O F w w' := by
  obtain ⟨res, hres⟩ : ∃ x, mergeF l l' r = x := ⟨_, rfl⟩
  rw [hres]
  have HRES := Lib.hid hres
  have HV := Lib.hid hv
  have HV' := Lib.hid hv'
  have HP := Lib.hid hp
  have HLEN := Lib.hid hlen
  have HU0 := Lib.hid hU
  have hO := hp.2.2
  clear hres hv hv' hp hlen hU
  go_enter Try.func59, Try.ntmps59
  go_wp2
  go_loopw [0, 1] (fun x y wr => ∃ (la lb : List Mono) (acc : List Mono × Bool), Part w0 x la ∧ Part w0 y lb ∧ AddAt wr h O F K acc ∧ UpTwo h O F w wr ∧ mergeF la lb acc = res ∧ la.length + lb.length + acc.1.length ≤ 5000) (fun x y _ => lenV x + lenV y)
  case atStart => exact ⟨l, l', r, HV.out, HV'.out, HP.out, UpTwo.refl _ _ _ _, HRES.out, HLEN.out⟩
  case round =>
    rename_i wr
    obtain ⟨la, lb, acc, hA, hB, hS, hT, hM, hL⟩ := hrel
    have hU := UpTwo.up HU0.out hO0 hF0 hh0 hT
    have HS := Lib.hid hS
    have HT := Lib.hid hT
    have HM := Lib.hid hM
    have HL := Lib.hid hL
    clear hS hT hM hL
    have HUW := Lib.hid hU
    have hh1 : h ≤ wr.heap.size := by have := HS.out.1; obtain ⟨_, _, _, ho⟩ := this; exact ho.2.2.2.2
    clear hU
    cases la with
    | nil =>
      obtain ⟨a1, cap1, rfl⟩ := hA.1.slice
      cases lb with
      | nil =>
        obtain ⟨a2, cap2, rfl⟩ := hB.1.slice
        obtain rfl : acc = res := by rw [← HM.out, mergeF]
        go_wp2
        go_end0
        exact ⟨rfl, HS.out, HT.out⟩
      | cons m' r' =>
        have HA := Lib.hid hA
        obtain ⟨bl', off', cap', rfl, ic1', ic2', ib', ii', icell', itail'⟩ := hB.form
        obtain ⟨s', b'⟩ := m'
        obtain ⟨n', hn'⟩ : ∃ n, r'.length = n := ⟨_, rfl⟩
        rw [hn'] at ic1' ic2' itail'
        rw [hn']
        have HN' := Lib.hid hn'
        have lz' : (((n' : Nat) : Int) + 1 == 0) = false := by simp; omega
        have lp' : (0 : Int) < (n' : Int) + 1 := by omega
        have HCB := Lib.hid icell'
        have HTB := Lib.hid itail'
        have HM2 : Hid (mergeF [] r' (stepA acc s' 0 b') = res) := Lib.hid (by rw [← HM.out, mergeF])
        clear icell' itail' hn' hA
        obtain ⟨jb0, jb1⟩ := HCB.out wr HUW.out
        try dsimp only at jb0 jb1
        have qb : bl' < wr.heap.size := by have := HUW.out.size; omega
        go_wp2_with fail
        refine wp_region_ext (by kernel_rfl) (by kernel_rfl) ?_
        repeat (go_big_quiet_step (fail))
        refine wpQuiet_nil ?_
        intro x1 hx1
        clear jb0 jb1 qb
        replace HS := Lib.hid (HS.out.up hx1)
        replace HT := Lib.hid (HT.out.trans (Up.two hx1 hh1))
        replace HUW := Lib.hid (HUW.out.trans hx1)
        obtain ⟨jb0, jb1⟩ := HCB.out x1 HUW.out
        try dsimp only at jb0 jb1
        have qb : bl' < x1.heap.size := by have := HUW.out.size; omega
        have hh1 : h ≤ x1.heap.size := by have := HS.out.1; obtain ⟨_, _, _, ho⟩ := this; exact ho.2.2.2.2
        clear hx1
        go_wp2_with fail
        refine wp_region_ext (by kernel_rfl) (by kernel_rfl) ?_
        repeat (go_big_quiet_step (fail))
        refine wpQuiet_nil ?_
        intro x2 hx2
        clear jb0 jb1 qb
        replace HS := Lib.hid (HS.out.up hx2)
        replace HT := Lib.hid (HT.out.trans (Up.two hx2 hh1))
        replace HUW := Lib.hid (HUW.out.trans hx2)
        obtain ⟨jb0, jb1⟩ := HCB.out x2 HUW.out
        try dsimp only at jb0 jb1
        have qb : bl' < x2.heap.size := by have := HUW.out.size; omega
        have hh1 : h ≤ x2.heap.size := by have := HS.out.1; obtain ⟨_, _, _, ho⟩ := this; exact ho.2.2.2.2
        clear hx2
        go_wp2_with fail
        refine wp_region_ext_tail 9 (by kernel_rfl) (by kernel_rfl) ?_
        simp only [List.take_succ_cons, List.take_zero, List.drop_succ_cons, List.drop_zero]
        repeat (go_big_quiet_step (fail))
        refine wpQuiet_nil ?_
        intro x3 hx3
        clear jb0 jb1 qb
        replace HS := Lib.hid (HS.out.up hx3)
        replace HT := Lib.hid (HT.out.trans (Up.two hx3 hh1))
        replace HUW := Lib.hid (HUW.out.trans hx3)
        have hh1 : h ≤ x3.heap.size := by have := HS.out.1; obtain ⟨_, _, _, ho⟩ := this; exact ho.2.2.2.2
        clear hx3
        go_wp2_with fail
        refine (lin_Add1 s' 0 b' in64_0 ii' _ h O F K acc HS.out (by have := HL.out; simp only [List.length_cons] at this; omega)).mono ?_
        rintro e y3 ⟨rfl, hS2, hT2⟩
        replace HS := Lib.hid hS2
        replace HT := Lib.hid (HT.out.trans hT2)
        replace HUW := Lib.hid (UpTwo.up HU0.out hO0 hF0 hh0 HT.out)
        clear hS2 hT2
        go_wp2
        go_roundw
        case rel => exact ⟨_, _, _, HA.out, HTB.out, HS.out, HT.out, HM2.out, by have := HL.out; have := stepA_len acc s' 0 b'; simp only [List.length_cons] at *; omega⟩
        case measure => simp [lenV] <;> omega
    | cons m r =>
      obtain ⟨bl, off, cap, rfl, ic1, ic2, ib, ii, icell, itail⟩ := hA.form
      obtain ⟨s, b⟩ := m
      obtain ⟨n, hn⟩ : ∃ n, r.length = n := ⟨_, rfl⟩
      have HAA := Lib.hid hA
      rw [hn] at ic1 ic2 itail
      rw [hn] at HAA ⊢
      have HN := Lib.hid hn
      have lz : (((n : Nat) : Int) + 1 == 0) = false := by simp; omega
      have lp : (0 : Int) < (n : Int) + 1 := by omega
      have HCA := Lib.hid icell
      have HTA := Lib.hid itail
      clear icell itail hn hA
      cases lb with
      | nil =>
        have HB := Lib.hid hB
        obtain ⟨a2, cap2, rfl⟩ := hB.1.slice
        have HM2 : Hid (mergeF r [] (stepA acc s b 0) = res) := Lib.hid (by rw [← HM.out, mergeF])
        clear hB
        obtain ⟨ja0, ja1⟩ := HCA.out wr HUW.out
        try dsimp only at ja0 ja1
        have qa : bl < wr.heap.size := by have := HUW.out.size; omega
        go_wp2_with fail
        refine wp_region_ext (by kernel_rfl) (by kernel_rfl) ?_
        repeat (go_big_quiet_step (fail))
        refine wpQuiet_nil ?_
        intro x4 hx4
        clear ja0 ja1 qa
        replace HS := Lib.hid (HS.out.up hx4)
        replace HT := Lib.hid (HT.out.trans (Up.two hx4 hh1))
        replace HUW := Lib.hid (HUW.out.trans hx4)
        obtain ⟨ja0, ja1⟩ := HCA.out x4 HUW.out
        try dsimp only at ja0 ja1
        have qa : bl < x4.heap.size := by have := HUW.out.size; omega
        have hh1 : h ≤ x4.heap.size := by have := HS.out.1; obtain ⟨_, _, _, ho⟩ := this; exact ho.2.2.2.2
        clear hx4
        go_wp2_with fail
        refine wp_region_ext_tail 9 (by kernel_rfl) (by kernel_rfl) ?_
        simp only [List.take_succ_cons, List.take_zero, List.drop_succ_cons, List.drop_zero]
        repeat (go_big_quiet_step (fail))
        refine wpQuiet_nil ?_
        intro x5 hx5
        clear ja0 ja1 qa
        replace HS := Lib.hid (HS.out.up hx5)
        replace HT := Lib.hid (HT.out.trans (Up.two hx5 hh1))
        replace HUW := Lib.hid (HUW.out.trans hx5)
        have hh1 : h ≤ x5.heap.size := by have := HS.out.1; obtain ⟨_, _, _, ho⟩ := this; exact ho.2.2.2.2
        clear hx5
        go_wp2_with fail
        refine (lin_Add1 s b 0 ii in64_0 _ h O F K acc HS.out (by have := HL.out; simp only [List.length_cons] at this; omega)).mono ?_
        rintro e y5 ⟨rfl, hS2, hT2⟩
        replace HS := Lib.hid hS2
        replace HT := Lib.hid (HT.out.trans hT2)
        replace HUW := Lib.hid (UpTwo.up HU0.out hO0 hF0 hh0 HT.out)
        clear hS2 hT2
        go_wp2
        go_roundw
        case rel => exact ⟨_, _, _, HTA.out, HB.out, HS.out, HT.out, HM2.out, by have := HL.out; have := stepA_len acc s b 0; simp only [List.length_cons] at *; omega⟩
        case measure => simp [lenV] <;> omega
      | cons m' r' =>
        obtain ⟨bl', off', cap', rfl, ic1', ic2', ib', ii', icell', itail'⟩ := hB.form
        obtain ⟨s', b'⟩ := m'
        obtain ⟨n', hn'⟩ : ∃ n, r'.length = n := ⟨_, rfl⟩
        have HBB := Lib.hid hB
        rw [hn'] at ic1' ic2' itail'
        rw [hn'] at HBB ⊢
        have HN' := Lib.hid hn'
        have lz' : (((n' : Nat) : Int) + 1 == 0) = false := by simp; omega
        have lp' : (0 : Int) < (n' : Int) + 1 := by omega
        have HCB := Lib.hid icell'
        have HTB := Lib.hid itail'
        clear icell' itail' hn' hB
        obtain ⟨ja0, ja1⟩ := HCA.out wr HUW.out
        try dsimp only at ja0 ja1
        have qa : bl < wr.heap.size := by have := HUW.out.size; omega
        obtain ⟨jb0, jb1⟩ := HCB.out wr HUW.out
        try dsimp only at jb0 jb1
        have qb : bl' < wr.heap.size := by have := HUW.out.size; omega
        by_cases h1 : Op.bytesLess s.toList s'.toList = true
        · have HM2 : Hid (mergeF r ((s', b') :: r') (stepA acc s b 0) = res) := Lib.hid (by rw [← HM.out, mergeF, if_pos h1])
          go_wp2_with fail
          refine wp_region_ext (by kernel_rfl) (by kernel_rfl) ?_
          repeat (go_big_quiet_step (fail))
          refine wpQuiet_nil ?_
          intro x6 hx6
          clear ja0 ja1 qa jb0 jb1 qb
          replace HS := Lib.hid (HS.out.up hx6)
          replace HT := Lib.hid (HT.out.trans (Up.two hx6 hh1))
          replace HUW := Lib.hid (HUW.out.trans hx6)
          obtain ⟨ja0, ja1⟩ := HCA.out x6 HUW.out
          try dsimp only at ja0 ja1
          have qa : bl < x6.heap.size := by have := HUW.out.size; omega
          obtain ⟨jb0, jb1⟩ := HCB.out x6 HUW.out
          try dsimp only at jb0 jb1
          have qb : bl' < x6.heap.size := by have := HUW.out.size; omega
          have hh1 : h ≤ x6.heap.size := by have := HS.out.1; obtain ⟨_, _, _, ho⟩ := this; exact ho.2.2.2.2
          clear hx6
          go_wp2_with fail
          refine wp_region_ext_tail 9 (by kernel_rfl) (by kernel_rfl) ?_
          simp only [List.take_succ_cons, List.take_zero, List.drop_succ_cons, List.drop_zero]
          repeat (go_big_quiet_step (fail))
          refine wpQuiet_nil ?_
          intro x7 hx7
          clear ja0 ja1 qa jb0 jb1 qb
          replace HS := Lib.hid (HS.out.up hx7)
          replace HT := Lib.hid (HT.out.trans (Up.two hx7 hh1))
          replace HUW := Lib.hid (HUW.out.trans hx7)
          have hh1 : h ≤ x7.heap.size := by have := HS.out.1; obtain ⟨_, _, _, ho⟩ := this; exact ho.2.2.2.2
          clear hx7
          go_wp2_with fail
          refine (lin_Add1 s b 0 ii in64_0 _ h O F K acc HS.out (by have := HL.out; simp only [List.length_cons] at this; omega)).mono ?_
          rintro e y7 ⟨rfl, hS2, hT2⟩
          replace HS := Lib.hid hS2
          replace HT := Lib.hid (HT.out.trans hT2)
          replace HUW := Lib.hid (UpTwo.up HU0.out hO0 hF0 hh0 HT.out)
          clear hS2 hT2
          go_wp2
          go_roundw
          case rel => exact ⟨_, _, _, HTA.out, HBB.out, HS.out, HT.out, HM2.out, by have := HL.out; have := stepA_len acc s b 0; simp only [List.length_cons] at *; omega⟩
          case measure => simp [lenV] <;> omega
        · have h1' : Op.bytesLess s.toList s'.toList = false := by simpa using h1
          by_cases h2 : Op.bytesLess s'.toList s.toList = true
          · have HM2 : Hid (mergeF ((s, b) :: r) r' (stepA acc s' 0 b') = res) := Lib.hid (by rw [← HM.out, mergeF, if_neg h1, if_pos h2])
            go_wp2_with fail
            refine wp_region_ext (by kernel_rfl) (by kernel_rfl) ?_
            repeat (go_big_quiet_step (fail))
            refine wpQuiet_nil ?_
            intro x8 hx8
            clear ja0 ja1 qa jb0 jb1 qb
            replace HS := Lib.hid (HS.out.up hx8)
            replace HT := Lib.hid (HT.out.trans (Up.two hx8 hh1))
            replace HUW := Lib.hid (HUW.out.trans hx8)
            obtain ⟨ja0, ja1⟩ := HCA.out x8 HUW.out
            try dsimp only at ja0 ja1
            have qa : bl < x8.heap.size := by have := HUW.out.size; omega
            obtain ⟨jb0, jb1⟩ := HCB.out x8 HUW.out
            try dsimp only at jb0 jb1
            have qb : bl' < x8.heap.size := by have := HUW.out.size; omega
            have hh1 : h ≤ x8.heap.size := by have := HS.out.1; obtain ⟨_, _, _, ho⟩ := this; exact ho.2.2.2.2
            clear hx8
            go_wp2_with fail
            refine wp_region_ext (by kernel_rfl) (by kernel_rfl) ?_
            repeat (go_big_quiet_step (fail))
            refine wpQuiet_nil ?_
            intro x9 hx9
            clear ja0 ja1 qa jb0 jb1 qb
            replace HS := Lib.hid (HS.out.up hx9)
            replace HT := Lib.hid (HT.out.trans (Up.two hx9 hh1))
            replace HUW := Lib.hid (HUW.out.trans hx9)
            obtain ⟨ja0, ja1⟩ := HCA.out x9 HUW.out
            try dsimp only at ja0 ja1
            have qa : bl < x9.heap.size := by have := HUW.out.size; omega
            obtain ⟨jb0, jb1⟩ := HCB.out x9 HUW.out
            try dsimp only at jb0 jb1
            have qb : bl' < x9.heap.size := by have := HUW.out.size; omega
            have hh1 : h ≤ x9.heap.size := by have := HS.out.1; obtain ⟨_, _, _, ho⟩ := this; exact ho.2.2.2.2
            clear hx9
            go_wp2_with fail
            refine wp_region_ext_tail 9 (by kernel_rfl) (by kernel_rfl) ?_
            simp only [List.take_succ_cons, List.take_zero, List.drop_succ_cons, List.drop_zero]
            repeat (go_big_quiet_step (fail))
            refine wpQuiet_nil ?_
            intro x10 hx10
            clear ja0 ja1 qa jb0 jb1 qb
            replace HS := Lib.hid (HS.out.up hx10)
            replace HT := Lib.hid (HT.out.trans (Up.two hx10 hh1))
            replace HUW := Lib.hid (HUW.out.trans hx10)
            have hh1 : h ≤ x10.heap.size := by have := HS.out.1; obtain ⟨_, _, _, ho⟩ := this; exact ho.2.2.2.2
            clear hx10
            go_wp2_with fail
            refine (lin_Add1 s' 0 b' in64_0 ii' _ h O F K acc HS.out (by have := HL.out; simp only [List.length_cons] at this; omega)).mono ?_
            rintro e y10 ⟨rfl, hS2, hT2⟩
            replace HS := Lib.hid hS2
            replace HT := Lib.hid (HT.out.trans hT2)
            replace HUW := Lib.hid (UpTwo.up HU0.out hO0 hF0 hh0 HT.out)
            clear hS2 hT2
            go_wp2
            go_roundw
            case rel => exact ⟨_, _, _, HAA.out, HTB.out, HS.out, HT.out, HM2.out, by have := HL.out; have := stepA_len acc s' 0 b'; simp only [List.length_cons] at *; omega⟩
            case measure => simp [lenV] <;> omega
          · have h2' : Op.bytesLess s'.toList s.toList = false := by simpa using h2
            have HM2 : Hid (mergeF r r' (stepA acc s b b') = res) := Lib.hid (by rw [← HM.out, mergeF, if_neg h1, if_neg h2])
            go_wp2_with fail
            refine wp_region_ext (by kernel_rfl) (by kernel_rfl) ?_
            repeat (go_big_quiet_step (fail))
            refine wpQuiet_nil ?_
            intro x11 hx11
            clear ja0 ja1 qa jb0 jb1 qb
            replace HS := Lib.hid (HS.out.up hx11)
            replace HT := Lib.hid (HT.out.trans (Up.two hx11 hh1))
            replace HUW := Lib.hid (HUW.out.trans hx11)
            obtain ⟨ja0, ja1⟩ := HCA.out x11 HUW.out
            try dsimp only at ja0 ja1
            have qa : bl < x11.heap.size := by have := HUW.out.size; omega
            obtain ⟨jb0, jb1⟩ := HCB.out x11 HUW.out
            try dsimp only at jb0 jb1
            have qb : bl' < x11.heap.size := by have := HUW.out.size; omega
            have hh1 : h ≤ x11.heap.size := by have := HS.out.1; obtain ⟨_, _, _, ho⟩ := this; exact ho.2.2.2.2
            clear hx11
            go_wp2_with fail
            refine wp_region_ext (by kernel_rfl) (by kernel_rfl) ?_
            repeat (go_big_quiet_step (fail))
            refine wpQuiet_nil ?_
            intro x12 hx12
            clear ja0 ja1 qa jb0 jb1 qb
            replace HS := Lib.hid (HS.out.up hx12)
            replace HT := Lib.hid (HT.out.trans (Up.two hx12 hh1))
            replace HUW := Lib.hid (HUW.out.trans hx12)
            obtain ⟨ja0, ja1⟩ := HCA.out x12 HUW.out
            try dsimp only at ja0 ja1
            have qa : bl < x12.heap.size := by have := HUW.out.size; omega
            obtain ⟨jb0, jb1⟩ := HCB.out x12 HUW.out
            try dsimp only at jb0 jb1
            have qb : bl' < x12.heap.size := by have := HUW.out.size; omega
            have hh1 : h ≤ x12.heap.size := by have := HS.out.1; obtain ⟨_, _, _, ho⟩ := this; exact ho.2.2.2.2
            clear hx12
            go_wp2_with fail
            refine wp_region_ext_tail 13 (by kernel_rfl) (by kernel_rfl) ?_
            simp only [List.take_succ_cons, List.take_zero, List.drop_succ_cons, List.drop_zero]
            repeat (go_big_quiet_step (fail))
            refine wpQuiet_nil ?_
            intro x13 hx13
            clear ja0 ja1 qa jb0 jb1 qb
            replace HS := Lib.hid (HS.out.up hx13)
            replace HT := Lib.hid (HT.out.trans (Up.two hx13 hh1))
            replace HUW := Lib.hid (HUW.out.trans hx13)
            have hh1 : h ≤ x13.heap.size := by have := HS.out.1; obtain ⟨_, _, _, ho⟩ := this; exact ho.2.2.2.2
            clear hx13
            go_wp2_with fail
            refine (lin_Add1 s b b' ii ii' _ h O F K acc HS.out (by have := HL.out; simp only [List.length_cons] at this; omega)).mono ?_
            rintro e y13 ⟨rfl, hS2, hT2⟩
            replace HS := Lib.hid hS2
            replace HT := Lib.hid (HT.out.trans hT2)
            replace HUW := Lib.hid (UpTwo.up HU0.out hO0 hF0 hh0 HT.out)
            clear hS2 hT2
            have hh1 : h ≤ y13.heap.size := by have := HS.out.1; obtain ⟨_, _, _, ho⟩ := this; exact ho.2.2.2.2
            go_wp2_with fail
            refine wp_region_ext (by kernel_rfl) (by kernel_rfl) ?_
            repeat (go_big_quiet_step (fail))
            refine wpQuiet_nil ?_
            intro x14 hx14
            replace HS := Lib.hid (HS.out.up hx14)
            replace HT := Lib.hid (HT.out.trans (Up.two hx14 hh1))
            replace HUW := Lib.hid (HUW.out.trans hx14)
            have hh1 : h ≤ x14.heap.size := by have := HS.out.1; obtain ⟨_, _, _, ho⟩ := this; exact ho.2.2.2.2
            clear hx14
            go_wp2
            go_roundw
            case rel => exact ⟨_, _, _, HTA.out, HTB.out, HS.out, HT.out, HM2.out, by have := HL.out; have := stepA_len acc s b b'; simp only [List.length_cons] at *; omega⟩
            case measure => simp [lenV] <;> omega
end Go.Proofs.Ytpclbgaaoednnaa
