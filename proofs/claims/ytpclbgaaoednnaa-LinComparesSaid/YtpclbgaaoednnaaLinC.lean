/-
  Compare of the program's side.
-/
import Derived.Test.YtpclbgaaoednnaaLinQ
import Derived.Lib.Bytealg
namespace Go.Proofs.Ytpclbgaaoednnaa
open Go.ChangeShapes Go.WideShapes Go.ChangeAt Go.RowKit
set_option linter.unusedVariables false

theorem bytealg_CompareString (a b : ByteArray) (w : World) :
    Calls Try.prog 74 #[.string a, .string b] w fun e w' => e = .returned (.int .i64 (Lib.compareBytes a.data.toList b.data.toList)) ∧ w' = w := by
  go_enter Try.func74, Try.ntmps74
  go_wp2
  rw [run_callFunc_extern Try.func77 (by kernel_rfl) (by kernel_rfl) (by kernel_rfl) (e := Extern.BytealgCompare.compare) (by kernel_rfl), Lib.run_compareString]
  simp only [Result.andThen]
  rw [Oper.upon_value]
  go_wp2
  go_ret
  exact ⟨rfl, rfl⟩

theorem strings_Compare (a b : ByteArray) (w : World) :
    Calls Try.prog 64 #[.string a, .string b] w fun e w' => e = .returned (.int .i64 (Lib.compareBytes a.toList b.toList)) ∧ w' = w := by
  have h := bytealg_CompareString a b
  rw [Lib.toList_data, Lib.toList_data]
  obtain ⟨c, hc⟩ : ∃ c, Lib.compareBytes a.data.toList b.data.toList = c := ⟨_, rfl⟩
  rw [hc] at h ⊢
  have H := Lib.hid h
  clear h hc
  go_enter Try.func64, Try.ntmps64
  go_wp2_with fail
  refine (H.out _).mono ?_
  rintro e x ⟨rfl, hx⟩
  replace hx := hx.symm
  subst hx
  go_wp2
  go_ret
  exact ⟨rfl, rfl⟩

def orderF (a b : Int) : Int := if a < b then -1 else if b < a then 1 else 0
theorem lin_order (a b : Int) (w : World) : Calls Try.prog 65 #[.int .i64 a, .int .i64 b] w fun e w' => e = .returned (.int .i64 (orderF a b)) ∧ w' = w := by
  by_cases h1 : a < b
  · have : orderF a b = -1 := by unfold orderF; rw [if_pos h1]
    rw [this]
    clear this
    go_enter Try.func65, Try.ntmps65
    go_wp2
    go_ret
    exact ⟨rfl, rfl⟩
  · by_cases h2 : b < a
    · have : orderF a b = 1 := by unfold orderF; rw [if_neg h1, if_pos h2]
      rw [this]
      clear this
      go_enter Try.func65, Try.ntmps65
      go_wp2
      go_ret
      exact ⟨rfl, rfl⟩
    · obtain rfl : a = b := by omega
      have : orderF a a = 0 := by unfold orderF; simp
      rw [this]
      clear this h1 h2
      go_enter Try.func65, Try.ntmps65
      go_wp2
      go_ret
      exact ⟨rfl, rfl⟩

def cmpM (m m' : Mono) : Int := if m.1 = m'.1 then orderF m.2 m'.2 else Lib.compareBytes m.1.toList m'.1.toList
def cmpL : List Mono → List Mono → Int
  | [], [] => 0
  | [], _ :: _ => -1
  | _ :: _, [] => 1
  | m :: r, m' :: r' => if cmpM m m' ≠ 0 then cmpM m m' else cmpL r r'
def compareF (K : Int) (l : List Mono) (K' : Int) (l' : List Mono) : Int := if cmpL l l' ≠ 0 then cmpL l l' else orderF K K'

theorem lin_Compare1 (s s' : ByteArray) (b b' : Int) (w : World) :
    Calls Try.prog 63 #[.agg #[.string s, .int .i64 b], .agg #[.string s', .int .i64 b']] w fun e w' => e = .returned (.int .i64 (cmpM (s, b) (s', b'))) ∧ Up w w' := by
  obtain ⟨c, hc⟩ : ∃ c, cmpM (s, b) (s', b') = c := ⟨_, rfl⟩
  rw [hc]
  by_cases hss : s = s'
  · subst hss
    have H : Hid (∀ w, Calls Try.prog 65 #[.int .i64 b, .int .i64 b'] w fun e w' => e = .returned (.int .i64 c) ∧ w' = w) := Lib.hid fun w => by
      rw [← hc]; unfold cmpM; rw [if_pos rfl]; exact lin_order b b' w
    clear hc
    go_enter Try.func63, Try.ntmps63
    go_wp2_with fail
    refine (H.out _).mono ?_
    rintro e x ⟨rfl, hx⟩
    replace hx := hx.symm
    subst hx
    go_wp2
    go_ret
    exact ⟨rfl, ((Up.refl w).alloc _).alloc _⟩
  · have hs2 : (s.toList == s'.toList) = false := by simpa using fun e => hss (toList_inj e)
    have H : Hid (∀ w, Calls Try.prog 64 #[.string s, .string s'] w fun e w' => e = .returned (.int .i64 c) ∧ w' = w) := Lib.hid fun w => by
      rw [← hc]; unfold cmpM; rw [if_neg hss]; exact strings_Compare s s' w
    have hs3 : ¬ s.toList = s'.toList := by simpa using hs2
    clear hc
    go_enter Try.func63, Try.ntmps63
    go_wp2_with fail
    refine (H.out _).mono ?_
    rintro e x ⟨rfl, hx⟩
    replace hx := hx.symm
    subst hx
    go_wp2
    go_ret
    exact ⟨rfl, ((Up.refl w).alloc _).alloc _⟩

set_option maxHeartbeats 2000000 in
theorem slices_CompareFunc (v v' : Value) (l l' : List Mono) (w : World) (hv : MonosAt w v l) (hv' : MonosAt w v' l') :
    Calls Try.prog 62 #[v, v', .func (.func 63) #[] #[]] w fun e w' => e = .returned (.int .i64 (cmpL l l')) ∧ Up w w' := by
  have hmax := hv.max
  have hmax' := hv'.max
  obtain ⟨r, hr⟩ : ∃ r, cmpL l l' = r := ⟨_, rfl⟩
  rw [hr]
  obtain ⟨a, cap, rfl⟩ := hv.slice
  obtain ⟨a', cap', rfl⟩ := hv'.slice
  obtain ⟨n, hn⟩ : ∃ n, l.length = n := ⟨_, rfl⟩
  obtain ⟨n', hn'⟩ : ∃ n', l'.length = n' := ⟨_, rfl⟩
  rw [hn] at hv hmax ⊢
  rw [hn'] at hv' hmax' ⊢
  have HV := Lib.hid hv
  have HV' := Lib.hid hv'
  have HN := Lib.hid hn
  have HN' := Lib.hid hn'
  have HR := Lib.hid hr
  clear hr hn hv hv' hn'
  go_enter Try.func62, Try.ntmps62
  go_wp2
  go_loopw [13] (fun i wr => ∃ k : Nat, k ≤ n ∧ k ≤ n' ∧ i = .int .i64 k ∧ Up w wr ∧ cmpL (l.drop k) (l'.drop k) = r) (fun i _ => n - (intOf i).toNat)
  case atStart => exact ⟨0, by omega, by omega, rfl, Up.refl _, by rw [List.drop_zero, List.drop_zero]; exact HR.out⟩
  case round =>
    rename_i wr
    obtain ⟨k, hk, hk', rfl, hU, hP⟩ := hrel
    have HP := Lib.hid hP
    clear hP
    have hs := hU.size
    by_cases hlt : k < n
    · have hlt2 : (k : Int) < (n : Int) := by omega
      have hk0 : (0 : Int) ≤ (k : Int) := by omega
      obtain ⟨bl, off, s, b, rfl, p1, p2, p3, p4⟩ := HV.out.elem hU k (by rw [HN.out]; exact hlt) HN.out rfl
      have q1 : bl < wr.heap.size := by omega
      have q5 : bl < wr.heap.size + 1 := by omega
      have q6 : wr.heap.size < wr.heap.size + 1 := by omega
      by_cases hlt' : k < n'
      · have hlt3 : (k : Int) < (n' : Int) := by omega
        obtain ⟨bl', off', s', b', rfl, p1', p2', p3', p4'⟩ := HV'.out.elem hU k (by rw [HN'.out]; exact hlt') HN'.out rfl
        have q2 : bl' < wr.heap.size := by omega
        have q7 : bl' < wr.heap.size + 1 := by omega
        obtain ⟨c, hc⟩ : ∃ c, cmpM (s, b) (s', b') = c := ⟨_, rfl⟩
        have HP2 : Hid ((if c ≠ 0 then c else cmpL (l.drop (k + 1)) (l'.drop (k + 1))) = r) := Lib.hid (by
          rw [← HP.out, drop_mono (by rw [HN.out]; exact hlt) p2, drop_mono (l := l') (by rw [HN'.out]; exact hlt') p2', ← hc]; rfl)
        have H : Hid (∀ w, Calls Try.prog 63 #[.agg #[.string s, .int .i64 b], .agg #[.string s', .int .i64 b']] w fun e w' => e = .returned (.int .i64 c) ∧ Up w w') := Lib.hid (hc ▸ lin_Compare1 s s' b b')
        clear p2 p2' HP hc
        go_wp2_with fail
        refine (H.out _).mono ?_
        rintro e x ⟨rfl, hx⟩
        have HU2 := Lib.hid (((hU.alloc _).alloc _).trans hx)
        clear hx
        by_cases hc0 : c = 0
        · subst hc0
          have HG : Hid (cmpL (l.drop (k + 1)) (l'.drop (k + 1)) = r) := Lib.hid (by rw [← HP2.out]; simp)
          go_wp2
          go_roundw
          case rel => exact ⟨k + 1, by omega, by omega, by go_num, HU2.out, HG.out⟩
          case measure => simp [intOf]; omega
        · have hc1 : (c == 0) = false := by simpa using hc0
          have HG : Hid (c = r) := Lib.hid (by rw [← HP2.out, if_pos hc0])
          go_wp2
          go_ret
          exact ⟨ret_int HG.out, HU2.out⟩
      · have hkn : k = n' := by omega
        have hlt3 : (n' : Int) ≤ (k : Int) := by omega
        have HG : Hid (1 = r) := Lib.hid (by
          have hd : l'.drop k = [] := List.drop_eq_nil_of_le (by rw [HN'.out]; omega)
          rw [← HP.out, drop_mono (by rw [HN.out]; exact hlt) p2, hd]; rfl)
        clear p2 hkn
        go_wp2
        go_ret
        exact ⟨ret_int HG.out, hU.alloc _⟩
    · have hlt2 : (n : Int) ≤ (k : Int) := by omega
      by_cases hnn : n < n'
      · have h9 : (n : Int) < (n' : Int) := by omega
        have HG : Hid (-1 = r) := Lib.hid (by
          rw [← HP.out, List.drop_eq_nil_of_le (by rw [HN.out]; omega)]
          obtain ⟨m, hm⟩ : ∃ m, l'.getD k m0 = m := ⟨_, rfl⟩
          rw [drop_mono (l := l') (by rw [HN'.out]; omega) hm]; rfl)
        go_wp2
        go_ret
        exact ⟨ret_int HG.out, hU⟩
      · have h9 : (n' : Int) ≤ (n : Int) := by omega
        have HG : Hid (0 = r) := Lib.hid (by
          rw [← HP.out, List.drop_eq_nil_of_le (by rw [HN.out]; omega), List.drop_eq_nil_of_le (by rw [HN'.out]; omega)]; rfl)
        go_wp2
        go_ret
        exact ⟨ret_int HG.out, hU⟩

set_option maxHeartbeats 1000000 in
theorem lin_Compare (K K' : Int) (v v' : Value) (l l' : List Mono) (w : World) (hv : MonosAt w v l) (hv' : MonosAt w v' l') :
    Calls Try.prog 26 #[.agg #[.int .i64 K, v], .agg #[.int .i64 K', v']] w fun e w' => e = .returned (.int .i64 (compareF K l K' l')) ∧ Up w w' := by
  obtain ⟨r, hr⟩ : ∃ r, compareF K l K' l' = r := ⟨_, rfl⟩
  rw [hr]
  have HV := Lib.hid hv
  have HV' := Lib.hid hv'
  obtain ⟨a, cap, rfl⟩ := hv.slice
  obtain ⟨a', cap', rfl⟩ := hv'.slice
  obtain ⟨n, hn⟩ : ∃ n, l.length = n := ⟨_, rfl⟩
  obtain ⟨n', hn'⟩ : ∃ n', l'.length = n' := ⟨_, rfl⟩
  rw [hn] at HV ⊢
  rw [hn'] at HV' ⊢
  obtain ⟨c, hc⟩ : ∃ c, cmpL l l' = c := ⟨_, rfl⟩
  obtain ⟨o, ho⟩ : ∃ c, orderF K K' = c := ⟨_, rfl⟩
  have HR : Hid ((if c ≠ 0 then c else o) = r) := Lib.hid (by rw [← hr]; unfold compareF; rw [hc, ho])
  have HC : Hid (∀ w v v', MonosAt w v l → MonosAt w v' l' → Calls Try.prog 62 #[v, v', .func (.func 63) #[] #[]] w fun e w' => e = .returned (.int .i64 c) ∧ Up w w') := Lib.hid fun w v v' h h' => by
    have := slices_CompareFunc v v' l l' w h h'
    rw [hc] at this; exact this
  have HO : Hid (∀ w, Calls Try.prog 65 #[.int .i64 K, .int .i64 K'] w fun e w' => e = .returned (.int .i64 o) ∧ w' = w) := Lib.hid (ho ▸ lin_order K K')
  clear hr hc ho hn hn' hv hv'
  go_enter Try.func26, Try.ntmps26
  go_wp2_with fail
  refine (HC.out _ _ _ (HV.out.up (((Up.refl w).alloc _).alloc _)) (HV'.out.up (((Up.refl w).alloc _).alloc _))).mono ?_
  rintro e x ⟨rfl, hx⟩
  have hs := hx.size
  rw [size_alloc, size_alloc] at hs
  have b0 : x.cell? ⟨w.heap.size, 0, none⟩ = some (.int .i64 K) := (hx.cell _ _ (by rw [size_alloc, size_alloc]; omega)).trans (by go_simp)
  have b1 : x.cell? ⟨w.heap.size + 1, 0, none⟩ = some (.int .i64 K') := (hx.cell _ _ (by rw [size_alloc, size_alloc]; omega)).trans (by go_simp)
  have HU := Lib.hid ((((Up.refl w).alloc _).alloc _).trans hx)
  clear hx
  by_cases hc0 : c = 0
  · subst hc0
    have HG : Hid (o = r) := Lib.hid (by rw [← HR.out]; simp)
    go_wp2_with fail
    refine (HO.out _).mono ?_
    rintro e x ⟨rfl, hx⟩
    replace hx := hx.symm
    subst hx
    go_wp2
    go_ret
    exact ⟨ret_int HG.out, HU.out⟩
  · have hc1 : (c == 0) = false := by simpa using hc0
    have HG : Hid (c = r) := Lib.hid (by rw [← HR.out, if_pos hc0])
    go_wp2
    go_ret
    exact ⟨ret_int HG.out, HU.out⟩
end Go.Proofs.Ytpclbgaaoednnaa
