/-
  Merged by a program (tools/mrg.py): PeCm, PvA.
-/
import Derived.Test.YtbpojmhgifgfdaaDoorPeTm
import Derived.Test.YtbpojmhgifgfdaaDoorPeT
import Derived.IntWalk

section
namespace Go.Proofs.YtbpojmhgifgfdaaDoor
open Go.ChangeShapes Go.WideShapes Go.ChangeAt Go.RowKit
set_option linter.unusedVariables false
set_option linter.unusedSimpArgs false
set_option maxRecDepth 100000

theorem valB_A {x : Ins} {many types words many' A : Int} (h : valB x many types words = true) (hj : jumpsB x.1 = true) (h0 : 0 ≤ A) (h1 : A < many') (h2 : A ≤ 65535) : valB (x.1, A, x.2.2) many' types words = true := by
  unfold valB at h ⊢
  rw [wf_form] at h ⊢
  dsimp only at h ⊢
  rw [hj] at h ⊢
  simp only [formB, Bool.and_eq_true, if_true, decide_eq_true_eq] at h ⊢
  obtain ⟨⟨hk, hf, hr⟩, hm⟩ := h
  refine ⟨⟨hk, ?_, hr⟩, h1⟩
  rw [kd_t hj]
  show inB A 0 65535 = true
  simp only [inB, decide_eq_true_eq]
  exact ⟨h0, h2⟩
theorem valB_N {x : Ins} {many types words many' : Int} (h : valB x many types words = true) (hj : jumpsB x.1 = false) : valB x many' types words = true := by
  unfold valB at h ⊢
  rw [hj] at h ⊢
  exact h
theorem fin_range {l : List Ins} (h : ∀ x ∈ l, jumpsB x.1 = true → 0 ≤ x.2.1 ∧ x.2.1 < (l.length : Int)) {t : Int} (ht : 0 ≤ t ∧ t < (l.length : Int)) : ∀ (k : Nat) (a : Int), 0 ≤ a ∧ a < (l.length : Int) → 0 ≤ finG l t k a ∧ finG l t k a < (l.length : Int)
  | 0, a, ha => by
    unfold finG
    split
    · exact ht
    · exact ha
  | k + 1, a, ha => by
    unfold finG
    split
    · exact ha
    · rename_i hc
      have h7 : (l.getD a.toNat i0).1 = 7 := Classical.byContradiction fun h => hc (.inr (.inr h))
      exact fin_range h ht k _ (h _ (getD_mem (by omega)) (by rw [h7]; rfl))
theorem remG_mem {i : Int} {y : Ins} : ∀ (l : List Ins) (k : Int), y ∈ remG l k i → ∃ p, p < l.length ∧ k + (p : Int) ≠ i ∧ y = decA (l.getD p i0) i
  | [], k, h => absurd h (by simp [remG])
  | x :: r, k, h => by
    rw [remG_cons] at h
    rcases List.mem_append.1 h with h | h
    · by_cases he : k = i
      · rw [if_pos he] at h; cases h
      · rw [if_neg he] at h
        exact ⟨0, by simp, by simpa using he, List.mem_singleton.1 h⟩
    · obtain ⟨p, h1, h2, h3⟩ := remG_mem r (k + 1) h
      exact ⟨p + 1, by simp; omega, by push_cast; omega, h3⟩
theorem jump_target {l : List Ins} {ts : List Typ} {words : Int} (hv : ValidB l ts words) : ∀ x ∈ l, jumpsB x.1 = true → 0 ≤ x.2.1 ∧ x.2.1 < (l.length : Int) := fun x hx hj => valid_jump (hv.2.2.2 x hx) hj
theorem rem_valid {l : List Ins} {ts : List Typ} {words : Int} (hv : ValidB l ts words) {j : Nat} (hj : j < l.length) (hlast : ∀ p, p < l.length → p ≠ j → jumpsB (l.getD p i0).1 = true → (l.getD p i0).2.1 = j → j + 1 < l.length) : ValidB (remF l j) ts words := by
  have hlen : (remF l j).length + 1 = l.length := remG_len1 l 0 j (by omega) (by omega)
  refine ⟨by have := hv.1; omega, hv.2.1, hv.2.2.1, fun y hy => ?_⟩
  obtain ⟨p, hp, hpj, rfl⟩ := remG_mem l 0 hy
  have hx := hv.2.2.2 _ (getD_mem hp)
  have hl := hlast p hp (by omega)
  have h16 := hv.1
  generalize l.getD p i0 = x at *
  cases hjm : jumpsB x.1 with
  | false =>
    have e : decA x j = x := by unfold decA; rw [hjm]; simp
    rw [e]; exact valB_N hx hjm
  | true =>
    obtain ⟨h0, h1⟩ := valid_jump hx hjm
    unfold decA
    rw [hjm]
    by_cases hjA : (j : Int) < x.2.1
    · rw [if_pos (by simpa using hjA)]
      exact valB_A hx hjm (by omega) (by omega) (by omega)
    · rw [if_neg (by simpa using hjA)]
      have : x.2.1 < ((remF l j).length : Int) := by
        rcases Int.lt_or_eq_of_le (show x.2.1 ≤ j by omega) with h | h
        · omega
        · have := hl hjm h; omega
      exact valB_A (A := x.2.1) hx hjm h0 this (by omega)
theorem set_valid {l : List Ins} {ts : List Typ} {words : Int} (hv : ValidB l ts words) {j : Nat} (hj : j < l.length) (hjm : jumpsB (l.getD j i0).1 = true) : ValidB (setA l j (finF l (l.getD j i0).2.1)) ts words := by
  have ht := jump_target hv _ (getD_mem hj) hjm
  have hf : 0 ≤ finF l (l.getD j i0).2.1 ∧ finF l (l.getD j i0).2.1 < (l.length : Int) := fin_range (jump_target hv) ht _ _ ht
  have h16 := hv.1
  refine ⟨by rw [setA_len]; exact hv.1, hv.2.1, hv.2.2.1, fun y hy => ?_⟩
  rw [setA_len]
  unfold setA at hy
  rcases List.mem_or_eq_of_mem_set hy with hy | rfl
  · exact hv.2.2.2 y hy
  · exact valB_A (hv.2.2.2 _ (getD_mem hj)) hjm hf.1 hf.2 (by omega)
theorem step_valid {l r : List Ins} {ts : List Typ} {words : Int} (hv : ValidB l ts words) (h : stepF l ts words = some r) : ValidB r ts words := by
  unfold stepF at h
  split at h
  · obtain ⟨j, _, hj, hb, hr⟩ := scanF_at l.length 0 (by omega) h
    obtain ⟨hc, hcl⟩ := reachF_closed l
    rcases hr with ⟨hg, rfl⟩ | ⟨hg, hi, rfl⟩ | ⟨hg, ht, rfl⟩
    · refine rem_valid hv hj fun p hp hpj hjm hA => ?_
      refine Classical.byContradiction fun hlt => ?_
      have hpl : p < j := by omega
      have hsp := hb p (Nat.zero_le _) hpl
      unfold goneB at hsp hg
      have hsp : (reachF l).getD p false = true := by simpa using hsp
      have hg : (reachF l).getD j false = false := by simpa using hg
      rcases hc p hp hsp (j : Int) (by
        unfold succF
        rw [hjm, if_pos rfl]
        exact List.mem_append.2 (.inl (by rw [hA]; exact List.mem_singleton.2 rfl))) (by omega) (by omega) with h | h
      · rw [Int.toNat_natCast, hg] at h; cases h
      · cases h
    · refine rem_valid hv hj fun p hp hpj hjm hA => ?_
      unfold idleAt at hi
      simp only [Bool.and_eq_true, decide_eq_true_eq] at hi
      exact hi.1
    · refine set_valid hv hj ?_
      unfold threadB at ht
      simp only [Bool.and_eq_true] at ht
      exact ht.1
  · cases h
theorem scan_none {l : List Ins} {seen : List Bool} : ∀ (k i : Nat), scanF l seen k i = none → ∀ p, i ≤ p → p < i + k → goneB seen p = false
  | 0, i, _, p, h1, h2 => by omega
  | k + 1, i, h, p, h1, h2 => by
    unfold scanF at h
    cases h0 : goneB seen i with
    | true => rw [h0, if_pos rfl] at h; cases h
    | false =>
      rcases Nat.eq_or_lt_of_le h1 with rfl | h1
      · exact h0
      · rw [h0, if_neg (by simp)] at h
        split at h
        · cases h
        · split at h
          · cases h
          · exact scan_none k (i + 1) h p h1 (by omega)
theorem unF_nil : ∀ (s : List Bool) (i : Int), (∀ b ∈ s, b = true) → unF s i = []
  | [], _, _ => rfl
  | b :: r, i, h => by
    have := h b (List.mem_cons_self ..)
    subst this
    show [] ++ unF r (i + 1) = []
    rw [List.nil_append]
    exact unF_nil r (i + 1) fun b hb => h b (List.mem_cons_of_mem _ hb)
theorem done_reach {r : List Ins} {ts : List Typ} {words : Int} (hv : ValidB r ts words) (h : stepF r ts words = none) : unreachF r = [] := by
  unfold stepF at h
  rw [if_pos ((valid_iff r ts words).2 hv)] at h
  refine unF_nil _ _ fun b hb => ?_
  obtain ⟨p, hp, rfl⟩ := List.getElem_of_mem hb
  have := scan_none _ _ h p (Nat.zero_le _) (by rw [← (reachF_closed r).2]; omega)
  unfold goneB at this
  rw [List.getD_eq_getElem?_getD, List.getElem?_eq_getElem hp] at this
  simpa using this
theorem complete_of {ts : List Typ} {words : Int} {r : List Ins} : ∀ (k : Nat) {l : List Ins}, ValidB l ts words → OptTo ts words k l r → ValidB r ts words ∧ stepF r ts words = none ∧ unreachF r = [] ∧ r.length ≤ l.length
  | 0, l, hv, h => by
    obtain ⟨h1, rfl⟩ := h
    exact ⟨hv, h1, done_reach hv h1, Nat.le_refl _⟩
  | k + 1, l, hv, h => by
    obtain ⟨l', h1, h2⟩ := h
    obtain ⟨g1, g2, g3, g4⟩ := complete_of k (step_valid hv h1) h2
    exact ⟨g1, g2, g3, Nat.le_trans g4 (stepF_len h1)⟩
end Go.Proofs.YtbpojmhgifgfdaaDoor
end

section
namespace Go.Proofs.YtbpojmhgifgfdaaDoor
open Go.ChangeShapes Go.WideShapes Go.ChangeAt Go.RowKit
set_option linter.unusedVariables false
set_option linter.unusedSimpArgs false
set_option maxRecDepth 100000

/-- A block of cells. -/
def BoxC (w : World) (g : Nat) (t : TypeId) (cs : Array Value) : Prop := w.heap[g]? = some (.cells cs t (0, 0))
theorem BoxC.lt {w : World} {g : Nat} {t : TypeId} {cs : Array Value} (h : BoxC w g t cs) : g < w.heap.size := (Array.getElem?_eq_some_iff.1 h).1
theorem BoxC.up {w w' : World} {g : Nat} {t : TypeId} {cs : Array Value} (h : BoxC w g t cs) (u : Up w w') : BoxC w' g t cs := (u.heap g h.lt).trans h
theorem BoxC.frozen {w : World} {g : Nat} {t : TypeId} {cs : Array Value} (h : BoxC w g t cs) (o : Nat) : w.frozen? ⟨g, o, none⟩ = false := frozen_of_row _ _ _ _ _ h
theorem BoxC.new (w : World) (t : TypeId) (cs : Array Value) : BoxC (w.alloc (.cells cs t)) w.heap.size t cs := heap_alloc_new w _
theorem BoxC.new2 (w : World) (o : Obj) (t : TypeId) (cs : Array Value) : BoxC ((w.alloc o).alloc (.cells cs t)) (w.heap.size + 1) t cs := by
  have := heap_alloc_new (w.alloc o) (.cells cs t (0, 0))
  rw [show (w.alloc o).heap.size = w.heap.size + 1 by simp] at this
  exact this
theorem BoxC.new3 (w : World) (o p : Obj) (t : TypeId) (cs : Array Value) : BoxC (((w.alloc o).alloc p).alloc (.cells cs t)) (w.heap.size + 2) t cs := by
  have := heap_alloc_new ((w.alloc o).alloc p) (.cells cs t (0, 0))
  rw [show ((w.alloc o).alloc p).heap.size = w.heap.size + 2 by simp] at this
  exact this
theorem BoxC.new4 (w : World) (o p q : Obj) (t : TypeId) (cs : Array Value) : BoxC ((((w.alloc o).alloc p).alloc q).alloc (.cells cs t)) (w.heap.size + 3) t cs := by
  have := heap_alloc_new (((w.alloc o).alloc p).alloc q) (.cells cs t (0, 0))
  rw [show (((w.alloc o).alloc p).alloc q).heap.size = w.heap.size + 3 by simp] at this
  exact this
theorem BoxC.two {w : World} {g : Nat} {t : TypeId} {a b : Value} (h : BoxC w g t #[a, b]) : w.cell? ⟨g, 0, none⟩ = some a ∧ w.cell? ⟨g, 1, none⟩ = some b := ⟨cell_of_row _ _ _ _ _ _ h, cell_of_row _ _ _ _ _ _ h⟩
theorem BoxC.five {w : World} {g : Nat} {t : TypeId} {a b c d e : Value} (h : BoxC w g t #[a, b, c, d, e]) : w.cell? ⟨g, 0, none⟩ = some a ∧ w.cell? ⟨g, 1, none⟩ = some b ∧ w.cell? ⟨g, 2, none⟩ = some c ∧ w.cell? ⟨g, 3, none⟩ = some d ∧ w.cell? ⟨g, 4, none⟩ = some e :=
  ⟨cell_of_row _ _ _ _ _ _ h, cell_of_row _ _ _ _ _ _ h, cell_of_row _ _ _ _ _ _ h, cell_of_row _ _ _ _ _ _ h, cell_of_row _ _ _ _ _ _ h⟩
theorem BoxC.put {w : World} {g : Nat} {t : TypeId} {a b : Value} (h : BoxC w g t #[a, b]) (c d : Value) : BoxC ((w.setCell ⟨g, 0, none⟩ c).setCell ⟨g, 1, none⟩ d) g t #[c, d] := set_heap (o := 1) (set_heap (o := 0) h c) d
theorem r64_wrap (x : Int) : R64 (wrap64 x) := by
  unfold R64
  unfold wrap64; omega

def flF (n d : Int) : Int := if n < wrap64 (wrap64 (n.tdiv d) * d) then wrap64 (wrap64 (n.tdiv d) - 1) else wrap64 (n.tdiv d)
def rdF (n d how : Int) : Int :=
  if wrap64 (n - wrap64 (flF n d * d)) = 0 ∨ how = 1 then flF n d
  else if how = 2 then wrap64 (flF n d + 1)
  else if how = 3 then (if n < 0 then wrap64 (flF n d + 1) else flF n d)
  else if wrap64 (d - wrap64 (n - wrap64 (flF n d * d))) < wrap64 (n - wrap64 (flF n d * d)) ∨ (wrap64 (n - wrap64 (flF n d * d)) = wrap64 (d - wrap64 (n - wrap64 (flF n d * d))) ∧ ¬ (flF n d).tmod 2 = 0) then wrap64 (flF n d + 1)
  else flF n d
def stF (fr : Int) : Int := wrap64 (2 ^ fr.toNat)

set_option maxHeartbeats 2000000 in
theorem r04_floor (n d r : Int) (hr : flF n d = r) (hd : ¬ d = 0) (w : World) :
    Calls Tryd.prog 82 #[.int .i64 n, .int .i64 d] w fun e' w' => e' = .returned (.int .i64 r) ∧ Up w w' := by
  have HR := Lib.hid hr
  have hd2 : (d == 0) = false := by simpa using hd
  clear hr
  go_enter Tryd.func82, Tryd.ntmps82
  go_wp2
  all_goals (try simp only [beq_iff_eq] at *)
  all_goals first | contradiction | (go_ret; exact ⟨ret_int (by rw [← HR.out, flF]; simp [*]; try omega), Up.refl _⟩)

set_option maxHeartbeats 2000000 in
theorem r04_step (kd bi fr ro ov r : Int) (hr : stF fr = r) (h1 : 0 ≤ fr) (h2 : fr ≤ 30) (w : World) :
    Calls Tryd.prog 85 #[.agg #[.int .i64 kd, .int .i64 bi, .int .i64 fr, .int .i64 ro, .int .i64 ov]] w fun e' w' => e' = .returned (.int .i64 r) ∧ Up w w' := by
  have HR := Lib.hid hr
  clear hr
  go_enter Tryd.func85, Tryd.ntmps85
  go_wp2
  go_ret
  exact ⟨ret_int (by rw [← HR.out, stF]), (Up.refl w).alloc _⟩

set_option maxHeartbeats 4000000 in
theorem r04_round (n d how r : Int) (hr : rdF n d how = r) (hd : ¬ d = 0) (w : World) :
    Calls Tryd.prog 84 #[.int .i64 n, .int .i64 d, .int .i64 how] w fun e' w' => e' = .returned (.int .i64 r) ∧ Up w w' := by
  obtain ⟨q, hq⟩ : ∃ q, flF n d = q := ⟨_, rfl⟩
  obtain ⟨e, he⟩ : ∃ e, wrap64 (n - wrap64 (q * d)) = e := ⟨_, rfl⟩
  obtain ⟨X, hX⟩ : ∃ X, wrap64 (d - e) = X := ⟨_, rfl⟩
  rw [rdF, hq, he, hX] at hr
  have HQ := Lib.hid hq
  have HR := Lib.hid hr
  have HD := Lib.hid hd
  clear hr hq hd
  go_enter Tryd.func84, Tryd.ntmps84
  go_wp2_with (go_at_call 82; refine (r04_floor _ _ _ HQ.out HD.out _).mono ?_; rintro e x ⟨rfl, hx⟩; have HU := Lib.hid hx; clear hx)
  all_goals try simp only [Bool.not_eq_false', Bool.not_eq_true', bne_iff_ne, ne_eq, bne_eq_false_iff_eq, beq_iff_eq, beq_eq_false_iff_ne, decide_eq_true_eq, decide_eq_false_iff_not] at *
  all_goals
    go_ret
    exact ⟨ret_int (by rw [← HR.out]; simp [*]; try omega), HU.out⟩

theorem pow_bd2 (b : Int) (h1 : 2 ≤ b) (h2 : b ≤ 31) : 2 ≤ (2 : Int) ^ (b.toNat - 1) ∧ (2 : Int) ^ (b.toNat - 1) ≤ 1073741824 := by
  have hb : b = 2 ∨ b = 3 ∨ b = 4 ∨ b = 5 ∨ b = 6 ∨ b = 7 ∨ b = 8 ∨ b = 9 ∨ b = 10 ∨ b = 11 ∨ b = 12 ∨ b = 13 ∨ b = 14 ∨ b = 15 ∨ b = 16 ∨ b = 17 ∨ b = 18 ∨ b = 19 ∨ b = 20 ∨ b = 21 ∨ b = 22 ∨ b = 23 ∨ b = 24 ∨ b = 25 ∨ b = 26 ∨ b = 27 ∨ b = 28 ∨ b = 29 ∨ b = 30 ∨ b = 31 := by omega
  rcases hb with rfl | rfl | rfl | rfl | rfl | rfl | rfl | rfl | rfl | rfl | rfl | rfl | rfl | rfl | rfl | rfl | rfl | rfl | rfl | rfl | rfl | rfl | rfl | rfl | rfl | rfl | rfl | rfl | rfl | rfl
  all_goals decide
def fitV (P v : Int) : Int := max (-P) (min (P - 1) v)
def fitF (bi ov n : Int) : Int := fitV (2 ^ (bi.toNat - 1)) (if ov = 2 then wrap64 (n - wrap64 (wrap64 (flF (wrap64 (n + 2 ^ (bi.toNat - 1))) (2 * 2 ^ (bi.toNat - 1)) * 2) * 2 ^ (bi.toNat - 1))) else n)

set_option maxHeartbeats 4000000 in
theorem r04_fit (kd bi fr ro ov n r : Int) (hr : fitF bi ov n = r) (h1 : 2 ≤ bi) (h2 : bi ≤ 31) (w : World) :
    Calls Tryd.prog 83 #[.agg #[.int .i64 kd, .int .i64 bi, .int .i64 fr, .int .i64 ro, .int .i64 ov], .int .i64 n] w fun e' w' => e' = .returned (.agg #[.int .i64 r, .int .i64 1]) ∧ Up w w' := by
  obtain ⟨hp1, hp2⟩ := pow_bd2 bi h1 h2
  rw [fitF, fitV] at hr
  obtain ⟨P, hP⟩ : ∃ P : Int, 2 ^ (bi.toNat - 1) = P := ⟨_, rfl⟩
  rw [hP] at hp1 hp2 hr
  obtain ⟨q, hq⟩ : ∃ q, flF (wrap64 (n + P)) (2 * P) = q := ⟨_, rfl⟩
  rw [hq] at hr
  have HQ := Lib.hid hq
  have HNZ : Hid (¬ 2 * P = 0) := Lib.hid (by omega)
  have HR := Lib.hid hr
  clear hq hr
  have HU : Hid (Up w ((w.alloc (.cells #[.int .i64 kd, .int .i64 bi, .int .i64 fr, .int .i64 ro, .int .i64 ov] 62)).alloc (.cells #[.int .i64 0, .int .i64 0] 60))) := Lib.hid (((Up.refl w).alloc _).alloc _)
  have HB : Hid (BoxC ((w.alloc (.cells #[.int .i64 kd, .int .i64 bi, .int .i64 fr, .int .i64 ro, .int .i64 ov] 62)).alloc (.cells #[.int .i64 0, .int .i64 0] 60)) (w.heap.size + 1) 60 #[.int .i64 0, .int .i64 0]) := Lib.hid (BoxC.new2 w _ _ _)
  by_cases ho : ov = 2
  · subst ho
    go_enter Tryd.func83, Tryd.ntmps83
    go_wp2_with (go_at_call 82; refine (r04_floor _ _ _ HQ.out HNZ.out _).mono ?_; rintro e x ⟨rfl, hx⟩; replace HU := Lib.hid (HU.out.trans hx); replace HB := Lib.hid (HB.out.up hx); clear hx; obtain ⟨b0, b1⟩ := HB.out.two; have bf := HB.out.frozen)
    all_goals
      refine bodyPost_ret (v := .agg #[.int .i64 r, .int .i64 1]) (by rw [← HR.out]; simp [results, Tryd.results83, go_sem, fitV, *]; try omega) rfl ?_
      first | exact ⟨rfl, (HU.out.setCell (p := ⟨w.heap.size + 1, 0, none⟩) (by show w.heap.size ≤ w.heap.size + 1; omega) _).setCell (p := ⟨w.heap.size + 1, 1, none⟩) (by show w.heap.size ≤ w.heap.size + 1; omega) _⟩ | exact ⟨rfl, ((Up.refl w).alloc _).alloc _⟩
  · have ho2 : (ov == 2) = false := by simpa using ho
    go_enter Tryd.func83, Tryd.ntmps83
    go_wp2
    all_goals
      refine bodyPost_ret (v := .agg #[.int .i64 r, .int .i64 1]) (by rw [← HR.out]; simp [results, Tryd.results83, go_sem, fitV, *]; try omega) rfl ?_
      first | exact ⟨rfl, (HU.out.setCell (p := ⟨w.heap.size + 1, 0, none⟩) (by show w.heap.size ≤ w.heap.size + 1; omega) _).setCell (p := ⟨w.heap.size + 1, 1, none⟩) (by show w.heap.size ≤ w.heap.size + 1; omega) _⟩ | exact ⟨rfl, ((Up.refl w).alloc _).alloc _⟩
end Go.Proofs.YtbpojmhgifgfdaaDoor
end
