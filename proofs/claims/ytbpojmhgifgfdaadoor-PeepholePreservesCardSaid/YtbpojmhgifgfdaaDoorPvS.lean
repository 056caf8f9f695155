/-
  The machine over (pc, X, R, M), and that a step of Optimize keeps its runs: plain.
-/
import Derived.Test.YtbpojmhgifgfdaaDoorPvA
import Derived.Test.YtbpojmhgifgfdaaDoorPeSr
import Derived.IntWalk
import Derived.Test.YtbpojmhgifgfdaaDoorPvG
import Derived.Test.YtbpojmhgifgfdaaDoorPvN
import Derived.Test.YtbpojmhgifgfdaaDoorPvL
namespace Go.Proofs.YtbpojmhgifgfdaaDoor
open Go.ChangeShapes Go.WideShapes Go.ChangeAt Go.RowKit
set_option linter.unusedVariables false
set_option linter.unusedSimpArgs false
set_option maxRecDepth 100000

structure St where
  X : List Int
  R : List (Int × Int)
  M : List (Int × Int)
inductive Out where
  | stop
  | bad (e : Int)
  | go (j : Bool) (s : St)
def xA (x : Ins) : Nat := x.2.1.toNat
def xB (x : Ins) : Nat := x.2.2.1.toNat
def xC (x : Ins) : Nat := x.2.2.2.1.toNat
def n1F (x : Ins) : Int := x.2.2.2.2.1.1
def tyF (x : Ins) : Typ := x.2.2.2.2.2
def v0 : Int × Int := (0, 0)
def memF (x : Ins) (s : St) (r : St) : Out := if s.X.getD (xB x) 0 < n1F x ∨ x.2.2.2.1 ≤ s.X.getD (xB x) 0 then .bad 12 else .go false r
def opF (x : Ins) (s : St) : Int × Int × Int := applF (n1F x) (tyF x) (s.R.getD (xB x) (0, 0)).1 (s.R.getD (xB x) (0, 0)).2 (s.R.getD (xC x) (0, 0)).1 (s.R.getD (xC x) (0, 0)).2
def caF (ts : List Typ) (x : Ins) (s : St) : Int × Int × Int := castF (ts.getD (n1F x).toNat y0) (tyF x) (s.R.getD (xB x) (0, 0)).1 (s.R.getD (xB x) (0, 0)).2
def teF (x : Ins) (s : St) : Bool × Int := testF (tyF x) (n1F x) (s.R.getD (xB x) (0, 0)).1 (s.R.getD (xB x) (0, 0)).2 (s.R.getD (xC x) (0, 0)).1 (s.R.getD (xC x) (0, 0)).2
def lay3 (x : Ins) (s : St) (r : Int × Int × Int) : Out := if r.2.2 = 0 then .go false { s with R := s.R.set (xA x) (r.1, r.2.1) } else .bad r.2.2
/-- What an instruction does. -/
def exF (ts : List Typ) (x : Ins) (s : St) : Out :=
  if x.1 = 0 then .stop
  else if x.1 = 7 then .go true s
  else if x.1 = 8 then .go (decide (s.X.getD (xB x) 0 < s.X.getD (xC x) 0)) s
  else if x.1 = 14 then (if (teF x s).2 = 0 then .go (!(teF x s).1) s else .bad (teF x s).2)
  else if x.1 = 10 then memF x s { s with R := s.R.set (xA x) (s.M.getD (s.X.getD (xB x) 0).toNat (0, 0)) }
  else if x.1 = 11 then memF x s { s with M := stL s.M (s.X.getD (xB x) 0).toNat [s.R.getD (xA x) (0, 0)] }
  else if x.1 = 9 then .go false { s with R := s.R.set (xA x) x.2.2.2.2.1 }
  else if x.1 = 12 then lay3 x s (opF x s)
  else if x.1 = 13 then lay3 x s (caF ts x s)
  else if x.1 = 16 then (if 2147483647 < s.X.getD (xB x) 0 ∨ s.X.getD (xB x) 0 < -2147483647 then .bad 3 else .go false { s with R := s.R.set (xA x) (s.X.getD (xB x) 0, 1) })
  else if x.1 = 1 then .go false { s with X := s.X.set (xA x) x.2.2.1 }
  else if x.1 = 2 then .go false { s with X := s.X.set (xA x) (s.X.getD (xB x) 0) }
  else if x.1 = 3 then .go false { s with X := s.X.set (xA x) (wrap64 (s.X.getD (xB x) 0 + s.X.getD (xC x) 0)) }
  else if x.1 = 4 then .go false { s with X := s.X.set (xA x) (wrap64 (s.X.getD (xB x) 0 * x.2.2.2.1)) }
  else if x.1 = 5 then .go false { s with X := s.X.set (xA x) (min (s.X.getD (xB x) 0) (s.X.getD (xC x) 0)) }
  else if x.1 = 6 then .go false { s with X := s.X.set (xA x) (max (s.X.getD (xB x) 0) (s.X.getD (xC x) 0)) }
  else .go false { s with X := s.X.set (xA x) (max 0 (min (s.R.getD (xB x) (0, 0)).1 (wrap64 (x.2.2.2.1 - 1)))) }
/-- How a run ends: the steps, the error, the state. -/
inductive Ends (l : List Ins) (ts : List Typ) : Nat → St → Nat → Int → St → Prop where
  | off {pc : Nat} {s : St} (h : l.length ≤ pc) : Ends l ts pc s 0 25 s
  | stop {pc : Nat} {s : St} (h : pc < l.length) (hx : exF ts (l.getD pc i0) s = .stop) : Ends l ts pc s 1 0 s
  | bad {pc : Nat} {s : St} {e : Int} (h : pc < l.length) (hx : exF ts (l.getD pc i0) s = .bad e) (he : e ≠ 0) : Ends l ts pc s 0 e s
  | go {pc n : Nat} {s s' s2 : St} {j : Bool} {e : Int} (h : pc < l.length) (hx : exF ts (l.getD pc i0) s = .go j s') (hr : Ends l ts (if j then xA (l.getD pc i0) else pc + 1) s' n e s2) : Ends l ts pc s (n + 1) e s2
def runF (l : List Ins) (ts : List Typ) : Nat → Nat → St → St × Nat × Int
  | 0, _, s => (s, 0, 14)
  | f + 1, pc, s => if l.length ≤ pc then (s, 0, 25) else
    match exF ts (l.getD pc i0) s with
    | .stop => (s, 1, 0)
    | .bad e => (s, 0, e)
    | .go j s' => ((runF l ts f (if j then xA (l.getD pc i0) else pc + 1) s').1, (if (runF l ts f (if j then xA (l.getD pc i0) else pc + 1) s').2.2 = 0 then (runF l ts f (if j then xA (l.getD pc i0) else pc + 1) s').2.1 + 1 else 0), (runF l ts f (if j then xA (l.getD pc i0) else pc + 1) s').2.2)
theorem runF_succ (l : List Ins) (ts : List Typ) (f pc : Nat) (s : St) : runF l ts (f + 1) pc s = if l.length ≤ pc then (s, 0, 25) else
    match exF ts (l.getD pc i0) s with
    | .stop => (s, 1, 0)
    | .bad e => (s, 0, e)
    | .go j s' => ((runF l ts f (if j then xA (l.getD pc i0) else pc + 1) s').1, (if (runF l ts f (if j then xA (l.getD pc i0) else pc + 1) s').2.2 = 0 then (runF l ts f (if j then xA (l.getD pc i0) else pc + 1) s').2.1 + 1 else 0), (runF l ts f (if j then xA (l.getD pc i0) else pc + 1) s').2.2) := rfl
theorem teF_A (x : Ins) (a : Int) (s : St) : teF (x.1, a, x.2.2) s = teF x s := rfl
/-- A jump's target changes nothing of what it does. -/
theorem exF_A {ts : List Typ} {x : Ins} (a : Int) (s : St) (h : jumpsB x.1 = true) : exF ts (x.1, a, x.2.2) s = exF ts x s := by
  unfold jumpsB at h
  simp only [Bool.or_eq_true, decide_eq_true_eq] at h
  obtain ⟨op, A, r⟩ := x
  dsimp only at h ⊢
  rcases h with (h | h) | h
  · subst h; rfl
  · subst h; rfl
  · subst h; rfl
theorem ite_ne {c : Prop} [Decidable c] {a b o : Out} (ha : a ≠ o) (hb : b ≠ o) : (if c then a else b) ≠ o := by split <;> assumption
theorem gf_t (s s' : St) : Out.go false s ≠ .go true s' := fun h => by injection h with h _; cases h
theorem bad_t (e : Int) (j : Bool) (s' : St) : Out.bad e ≠ .go j s' := fun h => by cases h
theorem memF_t (x : Ins) (s r s' : St) : memF x s r ≠ .go true s' := ite_ne (bad_t _ _ _) (gf_t _ _)
theorem lay3_t (x : Ins) (s s' : St) (r : Int × Int × Int) : lay3 x s r ≠ .go true s' := ite_ne (gf_t _ _) (bad_t _ _ _)
/-- Only jumps jump; a jump always does. -/
theorem exF_jump {ts : List Typ} {x : Ins} {s s' : St} (h : exF ts x s = .go true s') : jumpsB x.1 = true ∧ s' = s := by
  unfold exF at h
  unfold jumpsB
  by_cases h0 : x.1 = 0
  · rw [if_pos h0] at h; cases h
  · rw [if_neg h0] at h
    by_cases h7 : x.1 = 7
    · rw [if_pos h7] at h; injection h with _ h; exact ⟨by simp [h7], h.symm⟩
    · rw [if_neg h7] at h
      by_cases h8 : x.1 = 8
      · rw [if_pos h8] at h; injection h with _ h; exact ⟨by simp [h8], h.symm⟩
      · rw [if_neg h8] at h
        by_cases h14 : x.1 = 14
        · rw [if_pos h14] at h
          split at h
          · injection h with _ h; exact ⟨by simp [h14], h.symm⟩
          · cases h
        · exfalso
          rw [if_neg h14] at h
          revert h
          show _ ≠ _
          repeat' first | exact memF_t _ _ _ _ | exact lay3_t _ _ _ _ | exact gf_t _ _ | exact bad_t _ _ _ | refine ite_ne ?_ ?_
theorem exF_falls {ts : List Typ} {x : Ins} {s s' : St} (h : exF ts x s = .go false s') : x.1 ≠ 0 ∧ x.1 ≠ 7 := by
  unfold exF at h
  by_cases h0 : x.1 = 0
  · rw [if_pos h0] at h; cases h
  · rw [if_neg h0] at h
    by_cases h7 : x.1 = 7
    · rw [if_pos h7] at h; injection h with h _; exact absurd h (by decide)
    · exact ⟨h0, h7⟩
theorem exF_seven {ts : List Typ} {x : Ins} {s : St} (h : x.1 = 7) : exF ts x s = .go true s := by
  unfold exF; rw [if_neg (by omega), if_pos h]

/-! ### What is at a place behind a removal -/
def phi (i pc : Nat) : Nat := if i < pc then pc - 1 else pc
theorem remG_get (i : Nat) : ∀ (l : List Ins) (k p : Nat), p < l.length → k + p ≠ i → k ≤ i → (remG l k i).getD (if i < k + p then p - 1 else p) i0 = decA (l.getD p i0) i
  | [], _, _, hp, _, _ => absurd hp (by simp)
  | x :: r, k, p, hp, hne, hk => by
    rw [remG_cons]
    by_cases hki : k = i
    · subst hki
      rw [if_pos rfl, List.nil_append]
      obtain ⟨q, rfl⟩ : ∃ q, p = q + 1 := ⟨p - 1, by omega⟩
      rw [if_pos (by omega), show q + 1 - 1 = q by omega, show (k : Int) + 1 = ((k + 1 : Nat) : Int) by omega]
      show _ = decA (r.getD q i0) _
      exact remG_past k r (k + 1) q (by simpa using hp) (by omega)
    · rw [if_neg (by omega)]
      cases p with
      | zero => rw [if_neg (by omega)]; rfl
      | succ q =>
        have ih := remG_get i r (k + 1) q (by simpa using hp) (by omega) (by omega)
        rw [show k + 1 + q = k + (q + 1) by omega] at ih
        rw [show ((k : Nat) : Int) + 1 = ((k + 1 : Nat) : Int) by omega]
        show _ = decA (r.getD q i0) _
        by_cases hi : i < k + (q + 1)
        · rw [if_pos hi] at ih ⊢
          obtain ⟨q', rfl⟩ : ∃ q', q = q' + 1 := ⟨q - 1, by omega⟩
          exact ih
        · rw [if_neg hi] at ih ⊢
          exact ih
where
  remG_past (i : Nat) : ∀ (r : List Ins) (k q : Nat), q < r.length → i < k → (remG r k i).getD q i0 = decA (r.getD q i0) i
    | [], _, _, hq, _ => absurd hq (by simp)
    | x :: r, k, q, hq, hk => by
      rw [remG_cons, if_neg (by omega)]
      cases q with
      | zero => rfl
      | succ q =>
        rw [show ((k : Nat) : Int) + 1 = ((k + 1 : Nat) : Int) by omega]
        exact remG_past i r (k + 1) q (by simpa using hq) (by omega)
theorem remF_get {l : List Ins} {i p : Nat} (hp : p < l.length) (hne : p ≠ i) : (remF l i).getD (phi i p) i0 = decA (l.getD p i0) i := by
  have := remG_get i l 0 p hp (by omega) (by omega)
  rw [Nat.zero_add] at this
  exact this
theorem remF_len1 {l : List Ins} {i : Nat} (hi : i < l.length) : (remF l i).length + 1 = l.length := remG_len1 l 0 i (by omega) (by omega)
theorem exF_dec {ts : List Typ} (x : Ins) (i : Int) (s : St) : exF ts (decA x i) s = exF ts x s := by
  unfold decA
  split
  · rename_i h
    simp only [Bool.and_eq_true] at h
    exact exF_A _ s h.1
  · rfl
theorem xA_dec {x : Ins} {i : Nat} (h : jumpsB x.1 = true) (h0 : 0 ≤ x.2.1) : xA (decA x i) = phi i (xA x) := by
  unfold decA xA phi
  by_cases hi : (i : Int) < x.2.1
  · rw [if_pos (by simp [h, hi]), if_pos (by omega)]; show (x.2.1 - 1).toNat = _; omega
  · rw [if_neg (by simp [hi]), if_neg (by omega)]
/-- One step, carried over to the code without i. -/
theorem rem_next {l : List Ins} {i pc : Nat} {j : Bool} {ts : List Typ} {s s' : St} (hp : pc < l.length) (hne : pc ≠ i) (hj : exF ts (l.getD pc i0) s = .go j s') (h0 : jumpsB (l.getD pc i0).1 = true → 0 ≤ (l.getD pc i0).2.1) :
    phi i (if j then xA (l.getD pc i0) else pc + 1) = if j then xA ((remF l i).getD (phi i pc) i0) else phi i pc + 1 := by
  rw [remF_get hp hne]
  cases j with
  | true =>
    rw [if_pos rfl, if_pos rfl]
    have hjb := (exF_jump hj).1
    exact (xA_dec hjb (h0 hjb)).symm
  | false =>
    rw [if_neg (by simp), if_neg (by simp)]
    unfold phi
    split <;> split <;> omega
theorem phi_lt {l : List Ins} {i pc : Nat} (hi : i < l.length) (hp : pc < l.length) (hne : pc ≠ i) : phi i pc < (remF l i).length := by
  have := remF_len1 hi
  unfold phi
  split <;> omega
theorem phi_off {l : List Ins} {i pc : Nat} (hi : i < l.length) (hp : l.length ≤ pc) : (remF l i).length ≤ phi i pc := by
  have := remF_len1 hi
  unfold phi
  split <;> omega
def TgtOK (l : List Ins) : Prop := ∀ p, p < l.length → jumpsB (l.getD p i0).1 = true → 0 ≤ (l.getD p i0).2.1 ∧ (l.getD p i0).2.1 < l.length
/-- Rule 0: what is not reached goes. -/
theorem sim_gone {l : List Ins} {ts : List Typ} {i : Nat} (hi : i < l.length) (ht : TgtOK l) (hg : goneB (reachF l) i = true) : ∀ {pc : Nat} {s s2 : St} {n : Nat} {e : Int}, Ends l ts pc s n e s2 → (pc < l.length → (reachF l).getD pc false = true) → Ends (remF l i) ts (phi i pc) s n e s2 := by
  have hgi : (reachF l).getD i false = false := by unfold goneB at hg; simpa using hg
  intro pc s s2 n e h
  induction h with
  | off h => intro _; exact .off (phi_off hi h)
  | @stop pc s h hx =>
    intro hr
    have hne : pc ≠ i := fun e => by subst e; rw [hgi] at hr; exact absurd (hr h) (by simp)
    exact .stop (phi_lt hi h hne) (by rw [remF_get h hne, exF_dec]; exact hx)
  | @bad pc s e h hx he =>
    intro hr
    have hne : pc ≠ i := fun e => by subst e; rw [hgi] at hr; exact absurd (hr h) (by simp)
    exact .bad (phi_lt hi h hne) (by rw [remF_get h hne, exF_dec]; exact hx) he
  | @go pc n s s' s2 j e h hx hr ih =>
    intro hs
    have hne : pc ≠ i := fun e => by subst e; rw [hgi] at hs; exact absurd (hs h) (by simp)
    refine .go (phi_lt hi h hne) (by rw [remF_get h hne, exF_dec]; exact hx) ?_
    rw [← rem_next h hne hx (fun hj => (ht pc h hj).1)]
    refine ih fun hl => ?_
    obtain ⟨hc, hcl⟩ := reachF_closed l
    cases j with
    | true =>
      rw [if_pos rfl] at hl ⊢
      have hjb := (exF_jump hx).1
      have h0 := ht pc h hjb
      rcases hc pc h (hs h) (l.getD pc i0).2.1 (by unfold succF; rw [hjb, if_pos rfl]; simp) h0.1 h0.2 with g | g
      · exact g
      · cases g
    | false =>
      rw [if_neg (by simp)] at hl ⊢
      have hf := exF_falls hx
      rcases hc pc h (hs h) ((pc : Int) + 1) (by
        unfold succF
        rw [if_neg (c := (l.getD pc i0).1 = 0 ∨ (l.getD pc i0).1 = 7) (fun hh => hh.elim hf.1 hf.2)]
        simp) (by omega) (by omega) with g | g
      · rwa [show ((pc : Int) + 1).toNat = pc + 1 by omega] at g
      · cases g

/-! ### Rule 1: what does nothing goes -/
def Good (s : St) : Prop := (∀ k, R64 (s.X.getD k 0)) ∧ (∀ k, R64 (s.R.getD k (0, 0)).1) ∧ (∀ k, R64 (s.M.getD k (0, 0)).1)
theorem set_getD {α : Type} (l : List α) (a : Nat) (d : α) : l.set a (l.getD a d) = l := by
  refine List.ext_getElem? fun k => ?_
  rw [List.getElem?_set]
  by_cases h : a = k
  · subst h
    rw [if_pos rfl]
    by_cases hl : a < l.length
    · rw [if_pos hl, List.getD_eq_getElem?_getD, List.getElem?_eq_getElem hl]; rfl
    · rw [if_neg hl, List.getElem?_eq_none (by omega)]
  · rw [if_neg h]
theorem idle_step {ts : List Typ} {x : Ins} {i : Nat} {s : St} (h : idleB x i = true) (hg : Good s) : ∃ j, exF ts x s = .go j s ∧ (if j then xA x else i + 1) = i + 1 := by
  unfold idleB at h
  by_cases h2 : x.1 = 2
  · rw [if_pos h2] at h
    simp only [decide_eq_true_eq] at h
    refine ⟨false, ?_, rfl⟩
    unfold exF
    rw [if_neg (by omega), if_neg (by omega), if_neg (by omega), if_neg (by omega), if_neg (by omega), if_neg (by omega), if_neg (by omega), if_neg (by omega), if_neg (by omega), if_neg (by omega), if_neg (by omega), if_pos h2]
    unfold xA xB
    rw [h, set_getD]
  · rw [if_neg h2] at h
    by_cases h4 : x.1 = 4
    · rw [if_pos h4] at h
      simp only [Bool.and_eq_true, decide_eq_true_eq] at h
      refine ⟨false, ?_, rfl⟩
      unfold exF
      rw [if_neg (by omega), if_neg (by omega), if_neg (by omega), if_neg (by omega), if_neg (by omega), if_neg (by omega), if_neg (by omega), if_neg (by omega), if_neg (by omega), if_neg (by omega), if_neg (by omega), if_neg (by omega), if_neg (by omega), if_pos h4]
      unfold xA xB
      rw [h.1, h.2, Int.mul_one, IntWalk.wrap64_in _ (hg.1 _), set_getD]
    · rw [if_neg h4] at h
      by_cases h7 : x.1 = 7 ∨ x.1 = 8
      · rw [if_pos h7] at h
        simp only [decide_eq_true_eq] at h
        have hA : xA x = i + 1 := by unfold xA; omega
        rcases h7 with h7 | h8
        · exact ⟨true, exF_seven h7, by rw [if_pos rfl, hA]⟩
        · refine ⟨_, by unfold exF; rw [if_neg (by omega), if_neg (by omega), if_pos h8], ?_⟩
          rw [hA]; split <;> rfl
      · rw [if_neg h7] at h; cases h
theorem sim_idle {l : List Ins} {ts : List Typ} {i : Nat} (ht : TgtOK l) (hi : idleAt l i = true) (hgood : ∀ p s s' j, p < l.length → Good s → exF ts (l.getD p i0) s = .go j s' → Good s') : ∀ {pc : Nat} {s s2 : St} {n : Nat} {e : Int}, Ends l ts pc s n e s2 → Good s → ∃ m, m ≤ n ∧ Ends (remF l i) ts (phi i pc) s m e s2 := by
  unfold idleAt at hi
  simp only [Bool.and_eq_true, decide_eq_true_eq] at hi
  obtain ⟨hil, hib⟩ := hi
  have hi' : i < l.length := by omega
  intro pc s s2 n e h
  induction h with
  | off h => intro _; exact ⟨0, Nat.le_refl _, .off (phi_off hi' h)⟩
  | @stop pc s h hx =>
    intro hg
    by_cases hne : pc = i
    · subst hne
      obtain ⟨j, hj, _⟩ := idle_step (ts := ts) hib hg
      rw [hj] at hx; cases hx
    · exact ⟨1, Nat.le_refl _, .stop (phi_lt hi' h hne) (by rw [remF_get h hne, exF_dec]; exact hx)⟩
  | @bad pc s e h hx he =>
    intro hg
    by_cases hne : pc = i
    · subst hne
      obtain ⟨j, hj, _⟩ := idle_step (ts := ts) hib hg
      rw [hj] at hx; cases hx
    · exact ⟨0, Nat.le_refl _, .bad (phi_lt hi' h hne) (by rw [remF_get h hne, exF_dec]; exact hx) he⟩
  | @go pc n s s' s2 j e h hx hr ih =>
    intro hg
    obtain ⟨m, hm, hE⟩ := ih (hgood pc s s' j h hg hx)
    by_cases hne : pc = i
    · subst hne
      obtain ⟨j', hj, hpc⟩ := idle_step (ts := ts) hib hg
      rw [hj] at hx
      injection hx with e1 e2
      subst e1 e2
      rw [hpc] at hE
      refine ⟨m, by omega, ?_⟩
      have : phi pc pc = phi pc (pc + 1) := by unfold phi; rw [if_neg (by omega), if_pos (by omega)]; omega
      rw [this]; exact hE
    · refine ⟨m + 1, by omega, .go (phi_lt hi' h hne) (by rw [remF_get h hne, exF_dec]; exact hx) ?_⟩
      rw [← rem_next h hne hx (fun hj => (ht pc h hj).1)]
      exact hE

/-! ### Rule 2: a jump to a jump goes on at once -/
theorem fin_ends {l : List Ins} {ts : List Typ} (t : Int) : ∀ (k : Nat) (a : Int) {n : Nat} {s s2 : St} {e : Int}, 0 ≤ a → Ends l ts a.toNat s n e s2 → finG l t k a = t ∨ ∃ m, m ≤ n ∧ Ends l ts (finG l t k a).toNat s m e s2
  | 0, a, n, s, s2, e, h0, h => by
    unfold finG
    split
    · exact .inl rfl
    · exact .inr ⟨n, Nat.le_refl _, h⟩
  | k + 1, a, n, s, s2, e, h0, h => by
    unfold finG
    split
    · exact .inr ⟨n, Nat.le_refl _, h⟩
    · rename_i hc
      have h7 : (l.getD a.toNat i0).1 = 7 := Classical.byContradiction fun hh => hc (.inr (.inr hh))
      have hl : a.toNat < l.length := by omega
      cases h with
      | off h => omega
      | stop h hx => rw [exF_seven h7] at hx; cases hx
      | bad h hx he => rw [exF_seven h7] at hx; cases hx
      | @go _ n _ s' _ j e h hx hr =>
        rw [exF_seven h7] at hx
        injection hx with e1 e2
        subst e1 e2
        rw [if_pos rfl] at hr
        by_cases hA : 0 ≤ (l.getD a.toNat i0).2.1
        · rcases fin_ends t k (l.getD a.toNat i0).2.1 hA hr with g | ⟨m, hm, g⟩
          · exact .inl g
          · exact .inr ⟨m, by omega, g⟩
        · refine .inr ⟨n, by omega, ?_⟩
          have : finG l t k (l.getD a.toNat i0).2.1 = (l.getD a.toNat i0).2.1 ∨ (finG l t k (l.getD a.toNat i0).2.1).toNat = (l.getD a.toNat i0).2.1.toNat := by
            cases k with
            | zero => unfold finG; rw [if_neg (by omega)]; exact .inl rfl
            | succ k => unfold finG; rw [if_pos (by omega)]; exact .inl rfl
          rcases this with g | g
          · rw [g]; exact hr
          · rw [g]; exact hr
theorem set_op {l : List Ins} {i : Nat} {g : Int} {ts : List Typ} {pc : Nat} {s : St} (hi : i < l.length) (hjb : jumpsB (l.getD i i0).1 = true) : exF ts ((setA l i g).getD pc i0) s = exF ts (l.getD pc i0) s := by
  by_cases h : pc = i
  · subst h
    rw [setA_get l pc hi g]
    exact exF_A _ _ hjb
  · unfold setA
    rw [List.getD_eq_getElem?_getD, List.getElem?_set, if_neg (fun e => h e.symm), ← List.getD_eq_getElem?_getD]
theorem sim_thread {l : List Ins} {ts : List Typ} {i : Nat} (hi : i < l.length) (ht : TgtOK l) (hth : threadB l i = true) : ∀ (N : Nat) {pc : Nat} {s s2 : St} {n : Nat} {e : Int}, n ≤ N → Ends l ts pc s n e s2 → ∃ m, m ≤ n ∧ Ends (setA l i (finF l (l.getD i i0).2.1)) ts pc s m e s2 := by
  unfold threadB at hth
  simp only [Bool.and_eq_true, decide_eq_true_eq] at hth
  obtain ⟨hjb, hfin⟩ := hth
  intro N
  induction N with
  | zero =>
    intro pc s s2 n e hn h
    cases h with
    | off h => exact ⟨0, Nat.le_refl _, .off (by rw [setA_len]; exact h)⟩
    | stop h hx => omega
    | bad h hx he => exact ⟨0, Nat.le_refl _, .bad (by rw [setA_len]; exact h) (by rw [set_op hi hjb]; exact hx) he⟩
    | go h hx hr => omega
  | succ N IH =>
    intro pc s s2 n e hn h
    cases h with
    | off h => exact ⟨0, by omega, .off (by rw [setA_len]; exact h)⟩
    | stop h hx => exact ⟨1, by omega, .stop (by rw [setA_len]; exact h) (by rw [set_op hi hjb]; exact hx)⟩
    | bad h hx he => exact ⟨0, by omega, .bad (by rw [setA_len]; exact h) (by rw [set_op hi hjb]; exact hx) he⟩
    | @go _ n _ s' _ j _ h hx hr =>
      by_cases hpi : pc = i ∧ j = true
      · obtain ⟨rfl, rfl⟩ := hpi
        rw [if_pos rfl] at hr
        have h0 := ht pc h hjb
        rcases fin_ends (l.getD pc i0).2.1 l.length (l.getD pc i0).2.1 h0.1 hr with g | ⟨m, hm, g⟩
        · exact absurd g hfin
        · obtain ⟨m', hm', g'⟩ := IH (by omega) g
          refine ⟨m' + 1, by omega, .go (j := true) (s' := s') (by rw [setA_len]; exact h) (by rw [set_op hi hjb]; exact hx) ?_⟩
          rw [if_pos rfl, setA_get l pc hi]
          exact g'
      · obtain ⟨m, hm, g⟩ := IH (by omega) hr
        refine ⟨m + 1, by omega, .go (j := j) (s' := s') (by rw [setA_len]; exact h) (by rw [set_op hi hjb]; exact hx) ?_⟩
        have : (if j then xA ((setA l i (finF l (l.getD i i0).2.1)).getD pc i0) else pc + 1) = if j then xA (l.getD pc i0) else pc + 1 := by
          cases j with
          | false => rfl
          | true =>
            have hne : pc ≠ i := fun e => hpi ⟨e, rfl⟩
            rw [if_pos rfl, if_pos rfl]
            unfold setA
            rw [List.getD_eq_getElem?_getD, List.getElem?_set, if_neg (fun e => hne e.symm), ← List.getD_eq_getElem?_getD]
        rw [this]
        exact g

/-! ### A step of Optimize, and all of it -/
theorem valid_tgt {l : List Ins} {ts : List Typ} {words : Int} (hv : ValidB l ts words) : TgtOK l := fun p hp hj => jump_target hv _ (getD_mem hp) hj
def KeepB (ts : List Typ) (words : Int) : Prop := ∀ (l : List Ins), ValidB l ts words → ∀ p s s' j, p < l.length → Good s → exF ts (l.getD p i0) s = .go j s' → Good s'
theorem reach_zero {l : List Ins} (h : 0 < l.length) : (reachF l).getD 0 false = true := by
  obtain ⟨_, _, _, h4⟩ := reach_closed l (3 * l.length + 1) (List.replicate l.length false) [0] (by rw [unseen_rep]; simp) (by simp) (fun p hp hs => by
    exfalso
    rw [List.getD_eq_getElem?_getD] at hs
    simp [hp] at hs)
  exact h4 0 (List.mem_singleton.2 rfl) (Int.le_refl _) (by omega)
theorem sim_step {l r : List Ins} {ts : List Typ} {words : Int} (hk : KeepB ts words) (hv : ValidB l ts words) (h : stepF l ts words = some r) {s s2 : St} {n : Nat} {e : Int} (hE : Ends l ts 0 s n e s2) (hg : Good s) : ∃ m, m ≤ n ∧ Ends r ts 0 s m e s2 := by
  unfold stepF at h
  split at h
  · obtain ⟨j, _, hj, hb, hr⟩ := scanF_at l.length 0 (by omega) h
    rcases hr with ⟨hgo, rfl⟩ | ⟨hgo, hi, rfl⟩ | ⟨hgo, hth, rfl⟩
    · exact ⟨n, Nat.le_refl _, sim_gone hj (valid_tgt hv) hgo hE fun h => reach_zero h⟩
    · exact sim_idle (valid_tgt hv) hi (hk l hv) hE hg
    · exact sim_thread hj (valid_tgt hv) hth n (Nat.le_refl _) hE
  · cases h
theorem sim_opt {ts : List Typ} {words : Int} (hk : KeepB ts words) {r : List Ins} : ∀ (k : Nat) {l : List Ins}, ValidB l ts words → OptTo ts words k l r → ∀ {s s2 : St} {n : Nat} {e : Int}, Ends l ts 0 s n e s2 → Good s → ∃ m, m ≤ n ∧ Ends r ts 0 s m e s2
  | 0, l, hv, h, s, s2, n, e, hE, hg => by
    obtain ⟨_, rfl⟩ := h
    exact ⟨n, Nat.le_refl _, hE⟩
  | k + 1, l, hv, h, s, s2, n, e, hE, hg => by
    obtain ⟨l', h1, h2⟩ := h
    obtain ⟨m, hm, hE'⟩ := sim_step hk hv h1 hE hg
    obtain ⟨m', hm', hE2⟩ := sim_opt hk k (step_valid hv h1) h2 hE' hg
    exact ⟨m', by omega, hE2⟩

/-! ### runF and Ends -/
theorem run_ends {l : List Ins} {ts : List Typ} : ∀ (f pc : Nat) (s : St), (runF l ts f pc s).2.2 = 14 ∨ ∃ n, Ends l ts pc s n (runF l ts f pc s).2.2 (runF l ts f pc s).1 ∧ (runF l ts f pc s).2.1 = (if (runF l ts f pc s).2.2 = 0 then n else 0) ∧ (if (runF l ts f pc s).2.2 = 0 then n ≤ f else n < f)
  | 0, pc, s => .inl rfl
  | f + 1, pc, s => by
    rw [runF_succ]
    by_cases hl : l.length ≤ pc
    · rw [if_pos hl]; exact .inr ⟨0, .off hl, rfl, by show (if (25 : Int) = 0 then 0 ≤ f + 1 else 0 < f + 1); rw [if_neg (by decide)]; omega⟩
    · rw [if_neg hl]
      cases hx : exF ts (l.getD pc i0) s with
      | stop => exact .inr ⟨1, .stop (by omega) hx, rfl, by rw [if_pos rfl]; omega⟩
      | bad e =>
        dsimp only
        by_cases h0 : e = 0
        · exact absurd hx (fun hx => exF_bad (h0 ▸ hx))
        · exact .inr ⟨0, .bad (by omega) hx h0, by rw [if_neg h0], by rw [if_neg h0]; omega⟩
      | go j s' =>
        dsimp only
        have key : ∀ (r : St × Nat × Int), (r.2.2 = 14 ∨ ∃ n, Ends l ts (if j then xA (l.getD pc i0) else pc + 1) s' n r.2.2 r.1 ∧ r.2.1 = (if r.2.2 = 0 then n else 0) ∧ (if r.2.2 = 0 then n ≤ f else n < f)) →
            (r.2.2 = 14 ∨ ∃ n, Ends l ts pc s n r.2.2 r.1 ∧ (if r.2.2 = 0 then r.2.1 + 1 else 0) = (if r.2.2 = 0 then n else 0) ∧ (if r.2.2 = 0 then n ≤ f + 1 else n < f + 1)) := by
          intro r h
          rcases h with h | ⟨n, h1, h2, h3⟩
          · exact .inl h
          · refine .inr ⟨n + 1, .go (by omega) hx h1, ?_, ?_⟩
            · by_cases h : r.2.2 = 0
              · rw [if_pos h, if_pos h, h2, if_pos h]
              · rw [if_neg h, if_neg h]
            · by_cases h : r.2.2 = 0
              · rw [if_pos h] at h3 ⊢; omega
              · rw [if_neg h] at h3 ⊢; omega
        exact key _ (run_ends f _ s')
where
  exF_bad {ts : List Typ} {x : Ins} {s : St} (h : exF ts x s = .bad 0) : False := by
    revert h
    show exF ts x s ≠ _
    have g : ∀ j s', Out.go j s' ≠ .bad 0 := fun j s' h => by cases h
    have b : ∀ e : Int, e ≠ 0 → Out.bad e ≠ .bad 0 := fun e he h => by injection h with h; exact he h
    have st : Out.stop ≠ .bad 0 := fun h => by cases h
    have lay : ∀ r, lay3 x s r ≠ .bad 0 := fun r => by
      unfold lay3
      by_cases hr : r.2.2 = 0
      · rw [if_pos hr]; exact g _ _
      · rw [if_neg hr]; exact b _ hr
    have te : (if (teF x s).2 = 0 then Out.go (!(teF x s).1) s else .bad (teF x s).2) ≠ .bad 0 := by
      by_cases hr : (teF x s).2 = 0
      · rw [if_pos hr]; exact g _ _
      · rw [if_neg hr]; exact b _ hr
    unfold exF memF
    repeat first | exact g _ _ | exact b _ (by decide) | exact st | exact lay _ | exact te | refine ite_ne ?_ ?_
theorem ends_run {l : List Ins} {ts : List Typ} {pc n : Nat} {s s2 : St} {e : Int} (h : Ends l ts pc s n e s2) : ∀ (f : Nat), (if e = 0 then n ≤ f else n < f) → runF l ts f pc s = (s2, (if e = 0 then n else 0), e) := by
  induction h with
  | off h => intro f hf; obtain ⟨f, rfl⟩ : ∃ g, f = g + 1 := ⟨f - 1, by rw [if_neg (by decide)] at hf; omega⟩; rw [runF_succ, if_pos h]; rfl
  | stop h hx => intro f hf; obtain ⟨f, rfl⟩ : ∃ g, f = g + 1 := ⟨f - 1, by rw [if_pos rfl] at hf; omega⟩; rw [runF_succ, if_neg (by omega), hx]; rfl
  | bad h hx he => intro f hf; obtain ⟨f, rfl⟩ : ∃ g, f = g + 1 := ⟨f - 1, by rw [if_neg he] at hf; omega⟩; rw [runF_succ, if_neg (by omega), hx, if_neg he]
  | @go pc n s s' s2 j e h hx hr ih =>
    intro f hf
    obtain ⟨f, rfl⟩ : ∃ g, f = g + 1 := ⟨f - 1, by split at hf <;> omega⟩
    rw [runF_succ, if_neg (by omega), hx]
    dsimp only
    rw [ih f (by split at hf <;> split <;> first | omega | contradiction)]
    by_cases he : e = 0
    · simp [he]
    · simp [he]
/-- Two codes, one run: what the law asks. -/
theorem run_same {l r : List Ins} {ts : List Typ} {words : Int} (hk : KeepB ts words) (hv : ValidB l ts words) {k : Nat} (ho : OptTo ts words k l r) {s : St} (hg : Good s) (f : Nat) (he : (runF l ts f 0 s).2.2 ≠ 14) :
    (runF r ts f 0 s).2.2 = (runF l ts f 0 s).2.2 ∧ (runF r ts f 0 s).1 = (runF l ts f 0 s).1 ∧ (runF r ts f 0 s).2.1 ≤ (runF l ts f 0 s).2.1 := by
  rcases run_ends f 0 s with h | ⟨n, h1, h2, h3⟩
  · exact absurd h he
  · obtain ⟨m, hm, hE⟩ := sim_opt hk k hv ho h1 hg
    rw [ends_run hE f (by by_cases h0 : (runF l ts f 0 s).2.2 = 0
                          · rw [if_pos h0] at h3 ⊢; omega
                          · rw [if_neg h0] at h3 ⊢; omega), h2]
    refine ⟨rfl, rfl, ?_⟩
    dsimp only
    split <;> omega
end Go.Proofs.YtbpojmhgifgfdaaDoor
