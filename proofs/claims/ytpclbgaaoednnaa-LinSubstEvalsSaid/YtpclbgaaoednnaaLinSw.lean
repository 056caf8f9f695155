/-
  LinSubstEvals: the walk of the law.
-/
import Derived.Test.YtpclbgaaoednnaaLinV
import Derived.Test.YtpclbgaaoednnaaLawLSum
import Derived.BigRegion
import Derived.Deep.RegionWith
namespace Go.Proofs.Ytpclbgaaoednnaa.linSubstEvals
open Go.ChangeShapes Go.WideShapes Go.ChangeAt Go.RowKit
open Go.Proofs.Ytpclbgaaoednnaa.linSumEvals (eqForm_self eval_ok near_parts nearE_parts near64 Small Small.evalB)
set_option linter.unusedVariables false
set_option linter.unusedSimpArgs false

def nmI : ByteArray := ⟨#[105]⟩
theorem nm_ok : nameB nmI.toList = true := by rw [Lib.toList_data]; decide
theorem bind_info : (Try.prog.info? 48).map (fun i => (i.zero, i.size, i.bytes)) = some (some (.agg #[.string ByteArray.empty, .int .i64 0]), 2, 24) := by kernel_rfl

/-- The list of bindings with one ahead. -/
theorem with_cells (v : Int) (env : List Mono) : ∀ i j, i < env.length + 1 → j < 2 → ([.string nmI, .int .i64 v] ++ flat (monoF env) env.length 2)[i * 2 + j]? = some (monoF ((nmI, v) :: env) i j) := fun i j hi hj => by
  cases i with
  | zero => rcases (by omega : j = 0 ∨ j = 1) with rfl | rfl <;> rfl
  | succ i =>
    rw [show (i + 1) * 2 + j = (i * 2 + j) + 2 by omega]
    show ((.string nmI : Value) :: .int .i64 v :: flat (monoF env) env.length 2)[i * 2 + j + 2]? = _
    rw [List.getElem?_cons_succ, List.getElem?_cons_succ, flat_get _ _ _ _ _ (by omega) hj]
    rcases (by omega : j = 0 ∨ j = 1) with rfl | rfl <;> rfl
theorem rowSet2 {w : World} {Z : Nat} {u0 u1 a b : Value} {t : TypeId} (h : w.heap[Z]? = some (.cells #[u0, u1] t (0, 0))) :
    ((w.setCell ⟨Z, 0, none⟩ a).setCell ⟨Z, 1, none⟩ b).heap[Z]? = some (.cells #[a, b] t (0, 0)) := by
  have h1 : (w.setCell ⟨Z, 0, none⟩ a).heap[Z]? = some (.cells #[a, u1] t (0, 0)) := by
    simp [World.setCell, Array.getElem?_modify, h]
  generalize w.setCell ⟨Z, 0, none⟩ a = x at h1
  simp [World.setCell, Array.getElem?_modify, h1]

def CutS (x : World) (K : Int) (l : List Mono) (n : Nat) (s7 s8 : Value) (wx : World) : Prop :=
  ∃ Z va cap, s7 = .pointer (some ⟨Z, 0, none⟩) ∧ s8 = .int .i64 0 ∧ wx.heap[Z]? = some (.cells #[.int .i64 K, .slice va n cap] 25 (0, 0)) ∧ Up x wx ∧ MonosAt wx (.slice va n cap) l

theorem sub_self {K K' : Int} {l l' env : List Mono} (s : Small K K' l l' env) (w : World) (v vv : Value) (hv : MonosAt w v l) (hc : CapOk v) (hv' : MonosAt w vv (varL nmI)) (hc' : CapOk vv) :
    Calls Try.prog 31 #[.agg #[.int .i64 K, v], .string nmI, .agg #[.int .i64 0, vv]] w fun e w' => LinErrF w e w' (K, l, 0) ∧ Up w w' := by
  have hvl : varL nmI = [(nmI, 1)] := by unfold varL; rw [nm_ok]; rfl
  rw [hvl] at hv'
  have hn1 : nearAll [(nmI, 1)] = true := rfl
  have ho1 : okL [(nmI, 1)] = true := (okFrom_cons none (nmI, 1) []).2 ⟨nm_ok, by decide, rfl, rfl⟩
  have hs := lin_Substitute K 0 nmI v vv l [(nmI, 1)] w ⟨hv, rng_near s.a, hc⟩ ⟨hv', rng_near hn1, hc'⟩ (near64 s.k) ⟨by decide, by decide⟩ (by have := s.n; omega) (by simp)
  have h1 := (substF_near (K := K) (K' := 0) (l := l) (l' := [(nmI, 1)]) nm_ok s.k rfl s.a hn1 s.o ho1).1
  have hy := by_near nmI.toList l 0 s.a ⟨by omega, by omega⟩
  have h2 : (if byF nmI.toList l 0 = 0 then [] else outL (byF nmI.toList l 0) [(nmI, 1)]) = if byF nmI.toList l 0 = 0 then [] else [(nmI, byF nmI.toList l 0)] := by
    split
    · rfl
    · show [(nmI, (mulR 1 (byF nmI.toList l 0)).1)] = _
      unfold mulR
      rw [Int.one_mul, fit_true (by omega)]; rfl
  rw [h2, sum_self nmI l none s.o, Int.zero_mul, Int.add_zero] at h1
  rw [h1] at hs
  exact hs
theorem sub_to {K K' : Int} {l l' env : List Mono} (s : Small K K' l l' env) (KX : Int) (lx : List Mono) (hx : substF K l nmI.toList K' l' = (KX, lx, 0)) (w : World) (v vv : Value) (hv : MonosAt w v l) (hc : CapOk v) (hv' : MonosAt w vv l') (hc' : CapOk vv) :
    Calls Try.prog 31 #[.agg #[.int .i64 K, v], .string nmI, .agg #[.int .i64 K', vv]] w fun e w' => LinErrF w e w' (KX, lx, 0) ∧ Up w w' := by
  have hs := lin_Substitute K K' nmI v vv l l' w ⟨hv, rng_near s.a, hc⟩ ⟨hv', rng_near s.a', hc'⟩ (near64 s.k) (near64 s.k') (by have := s.n; omega) (by have := s.n'; omega)
  rw [hx] at hs
  exact hs

theorem sumM_bd (l l' : List Mono) (h : bdAll l) (h' : bdAll l') : ∀ m ∈ sumM l l', In64 m.2 := by
  have hp : ∀ (s : ByteArray) (c : Int) (r : List Mono), In64 c → (∀ m ∈ r, In64 m.2) → ∀ m ∈ putM s c r, In64 m.2 := fun s c r hc hr => by
    unfold putM
    split
    · exact hr
    · intro m hm
      rcases List.mem_cons.1 hm with rfl | hm
      · exact hc
      · exact hr m hm
  induction l, l' using sumM.induct with
  | case1 => rw [sumM]; intro m hm; cases hm
  | case2 m r ih =>
    obtain ⟨h1, h2⟩ := bdAll_cons h
    rw [sumM]; exact hp _ _ _ (by unfold In64; omega) (ih h2 h')
  | case3 m' r' ih =>
    obtain ⟨h1, h2⟩ := bdAll_cons h'
    rw [sumM]; exact hp _ _ _ (by unfold In64; omega) (ih h h2)
  | case4 m r m' r' hc ih =>
    obtain ⟨h1, h2⟩ := bdAll_cons h
    rw [sumM, if_pos hc]; exact hp _ _ _ (by unfold In64; omega) (ih h2 h')
  | case5 m r m' r' hc hd ih =>
    obtain ⟨h1, h2⟩ := bdAll_cons h'
    rw [sumM, if_neg hc, if_pos hd]; exact hp _ _ _ (by unfold In64; omega) (ih h h2)
  | case6 m r m' r' hc hd ih =>
    obtain ⟨h1, h2⟩ := bdAll_cons h
    obtain ⟨h3, h4⟩ := bdAll_cons h'
    rw [sumM, if_neg hc, if_neg hd]; exact hp _ _ _ (by unfold In64; omega) (ih h2 h4)

/-- The facts on the substituted form. -/
structure SubF (K K' : Int) (l l' env : List Mono) (KX : Int) (lx : List Mono) : Prop where
  eq : substF K l nmI.toList K' l' = (KX, lx, 0)
  k : In64 KX
  r : Rng lx
  n : lx.length ≤ 1000
  v : ∀ v, evalF K' l' env = (v, 0) → (evalF K l ((nmI, v) :: env)).2 = 0 → evalF KX lx env = ((evalF K l ((nmI, v) :: env)).1, 0)

theorem sub_facts {K K' : Int} {l l' env : List Mono} (s : Small K K' l l' env) : ∃ KX lx, SubF K K' l l' env KX lx := by
  obtain ⟨h1, h2⟩ := substF_near (K := K) (K' := K') (l := l) (l' := l') nm_ok s.k s.k' s.a s.a' s.o s.o'
  obtain ⟨y, hy⟩ : ∃ y, byF nmI.toList l 0 = y := ⟨_, rfl⟩
  have hyn := by_near nmI.toList l 0 s.a ⟨by omega, by omega⟩
  rw [hy] at h1 h2 hyn
  obtain ⟨k1, k2⟩ := (near_iff _).1 s.k
  have hm := mul_near ((near_iff _).1 s.k') hyn
  have hb : ∀ m ∈ (if y = 0 then [] else outL y l'), -1099511627776 ≤ m.2 ∧ m.2 ≤ 1099511627776 := by
    split
    · intro m hm; cases hm
    · exact scale_bd hyn s.a'
  have hlen : (if y = 0 then [] else outL y l').length ≤ l'.length := by
    split
    · simp
    · simp [outL]
  have hrl : (restL nmI.toList l).length ≤ l.length := List.length_filter_le _ _
  refine ⟨_, _, h1, by unfold In64; omega, ?_, ?_, fun v hv h0 => ?_⟩
  · exact rng_of_mem (sumM_bd _ _ (bd_near (rest_near _ _ s.a)) (fun m hm => by have := hb m hm; omega))
  · have := sumM_len (restL nmI.toList l) (if y = 0 then [] else outL y l')
    have := s.n; have := s.n'
    omega
  · cases hs : sumE ((nmI, v) :: env) l K with
    | none =>
      unfold evalF at h0
      rw [s.o, hs] at h0; cases h0
    | some u =>
      have hfu : fitB u = true := by
        unfold evalF at h0
        rw [s.o, hs] at h0
        cases hf : fitB u
        · have h0' : (if fitB u then (u, (0 : Int)) else (0, 3)).2 = 0 := h0
          rw [hf] at h0'; cases h0'
        · rfl
      have hres : evalF K l ((nmI, v) :: env) = (u, 0) := by
        unfold evalF
        rw [s.o, hs]
        show (if fitB u then (u, (0 : Int)) else (0, 3)) = _
        rw [hfu]; rfl
      have hto : sumE env l' K' = some v := by
        cases ht : sumE env l' K' with
        | none => rw [eval_none s.o' ht] at hv; cases hv
        | some x =>
          rw [(eval_near s.k' s.a' s.n' s.o' s.e ht).1] at hv
          cases hv; rfl
      have hr := rest_value nmI v env l none K u s.o hs
      rw [hy] at hr
      have hsum : sumE env (if y = 0 then [] else outL y l') (K' * y) = some (v * y) := by
        by_cases hy0 : y = 0
        · rw [if_pos hy0, hy0, Int.mul_zero, Int.mul_zero]; rfl
        · rw [if_neg hy0]; exact scale_value env y l' K' v (scale_fit hyn l' s.a') hto
      have hx := sum_sumM env _ _ _ _ _ _ hr hsum
      rw [show u - y * v + v * y = u by rw [Int.mul_comm v y]; omega] at hx
      rw [hres]
      unfold evalF
      rw [h2, hx]
      show (if fitB u then (u, (0 : Int)) else (0, 3)) = _
      rw [hfu]; rfl
end Go.Proofs.Ytpclbgaaoednnaa.linSubstEvals
