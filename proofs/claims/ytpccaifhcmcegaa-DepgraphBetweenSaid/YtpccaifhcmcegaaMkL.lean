/-
  Regions that draw their order, whose last operation (a store, say) may run ahead of one late operation that only works on temporaries (the extract of a second result): the walk of Mk serves, and the last operation's run is given by an equation. No program is named here.
-/
import Derived.Test.YtpccaifhcmcegaaGb
namespace Go.Proofs.Ytpccaifhcmcegaa
open Go.ChangeShapes Go.WideShapes Go.ChangeAt Go.RowKit
set_option linter.unusedVariables false
set_option linter.unusedSimpArgs false

section
variable {P : Program} {ops : Array Oper} {md : Region.Mode} {w : World} {M : FuncId → Array Value → Value → World → Prop}

def wpAnyE (P : Program) (md : Region.Mode) (ops : Array Oper) (M : FuncId → Array Value → Value → World → Prop) (w : World) (n e : Nat) (L : Array Bool → Act → (World → Prop) → Prop) : Nat → Array Bool → Act → (World → Prop) → Prop
  | 0, listed, a, S => L listed a S
  | f + 1, listed, a, S =>
    Region.ready md ops listed ≠ [] ∧ ∀ i ∈ Region.ready md ops listed, (i < n ∧ mOp P ops M w i (wpAnyE P md ops M w n e L f (listed.setIfInBounds i true)) a S) ∨ (i = n ∧ f = 0 ∧ e ∈ Region.ready md ops listed)

/-- An operation that works on temporaries alone. -/
def PureO (P : Program) (o : Oper) : Prop := ∀ (ρ : Operand → Value) (x y x1 : World) (r : Next), (execOp ρ o).run P x = .ok r x1 → x1 = x ∧ (∃ v, r = .value v) ∧ (execOp ρ o).run P y = .ok r y
theorem pureO_extract {o : Oper} {t : Operand} {k : Nat} (h : o.op = .extract t k) : PureO P o := by
  intro ρ x y x1 r hr
  unfold execOp at hr ⊢
  simp only [h] at hr ⊢
  unfold Instr.extract at hr ⊢
  revert hr
  generalize ρ t = u
  intro hr
  cases u
  case tuple vs =>
    rcases hv : vs[k]? with _ | u
    · simp [hv, Sem.run_bind, go_sem, Result.andThen] at hr
    · simp only [hv, Sem.run_bind, Sem.run_pure, Result.andThen] at hr ⊢
      injection hr with h1 h2
      subst h1
      subst h2
      exact ⟨rfl, ⟨_, rfl⟩, rfl⟩
  all_goals exact absurd hr (by simp [Sem.run_bind, go_sem, Result.andThen])

def sinkEB (md : Region.Mode) (ops : Array Oper) (n e : Nat) : Bool :=
  (List.range n).all fun i => decide (i = e) || (List.range (n + 1)).any fun j => decide (i < j) && decide (j ≠ e) && Region.waitsFor md ops j i
theorem tail_waitsE {n e : Nat} {listed : Array Bool} (hs : sinkEB md ops n e = true) (hn : n < ops.size) (hen : e < n) (inv : HeadInv md ops n listed) (hr : n ∈ Region.ready md ops listed) :
    ∀ (d i : Nat), n - i = d → i < n → i ≠ e → listed.getD i true = true := by
  intro d
  induction d using Nat.strongRecOn with
  | _ d ih =>
    intro i hd hi hie
    cases hun : listed.getD i true with
    | true => rfl
    | false =>
    exfalso
    obtain ⟨_, ot, hot, hall⟩ := mem_ready.1 hr
    have h1 := List.all_eq_true.1 hs i (List.mem_range.2 hi)
    simp only [Bool.or_eq_true, decide_eq_true_eq] at h1
    obtain ⟨j, hj, hj2⟩ := List.any_eq_true.1 (h1.resolve_left hie)
    simp only [Bool.and_eq_true, decide_eq_true_eq] at hj2
    obtain ⟨oj, hoj, ed, he, hb, hon⟩ := Region.waitsFor_spec hj2.2
    have hjle : j ≤ n := by have := List.mem_range.1 hj; omega
    by_cases hjt : j = n
    · subst hjt
      have : oj = ot := Option.some.inj (hoj.symm.trans hot)
      subst this
      have h2 := hall ed he hb
      rw [hon, getD_both hun] at h2
      cases h2
    · have hjs : j < listed.size := by rw [inv.size]; omega
      have h3 := ih (n - j) (by omega) j rfl (by omega) hj2.1.2
      have h4 : listed.getD j false = true := by
        rw [Array.getD_eq_getD_getElem?, Array.getElem?_eq_getElem hjs] at h3 ⊢
        exact h3
      have h2 := inv.closed j oj hoj h4 ed he hb
      rw [hon, getD_both hun] at h2
      cases h2

theorem wpAnyE_first {n e i : Nat} {oi : Oper} {L : Array Bool → Act → (World → Prop) → Prop} (hi : ops[i]? = some oi) (hin : i < n) (hsel : ∀ (j : Nat) (o : Oper) cs b, ops[j]? = some o → o.op ≠ .select cs b)
    (hT : ∀ listed, HeadInv md ops n listed → ∀ j ∈ Region.ready md ops listed, j < n + 1) (hE : ∀ listed, HeadInv md ops n listed → n ∈ Region.ready md ops listed → ∀ k, k < n → k ≠ e → listed.getD k true = true)
    (hdone : ∀ listed a S, L listed a S → ∀ j ∈ Region.ready md ops listed, n ≤ j) :
    ∀ (f : Nat) (listed : Array Bool) (a : Act) (S : World → Prop), HeadInv md ops n listed →
      (∀ j oj, ops[j]? = some oj → j ≠ i → listed.getD j true = false → (∀ e ∈ oj.after, Region.binds md e = true → e.on ≠ i) → oi.apart ops oj = true) →
      i ∈ Region.ready md ops listed → mGood P ops M w oi a →
      (∀ v T, mRes P ops M w oi a v T → wpAnyE P md ops M w n e L f (listed.setIfInBounds i true) (a.put oi.dst v) (fun y => S y ∧ T y)) → wpAnyE P md ops M w n e L (f + 1) listed a S := by
  intro f
  induction f with
  | zero =>
    intro listed a S inv _ hr hy H
    have hun := (mem_ready.1 hr).1
    refine ⟨fun h => (by rw [h] at hr; cases hr), fun j hj => ?_⟩
    have hjn : j < n + 1 := hT listed inv j hj
    by_cases hjn' : j = n
    · subst hjn'
      refine .inr ⟨rfl, rfl, ?_⟩
      by_cases hie : i = e
      · subst hie; exact hr
      · have := hE listed inv hj i hin hie
        rw [hun] at this; cases this
    refine .inl ⟨by omega, ?_⟩
    by_cases hji : j = i
    · subst hji; unfold mOp; simp only [hi]; exact ⟨hy, H⟩
    · obtain ⟨v0, T0, hr0⟩ := hy.some
      have := hdone _ _ _ (H v0 T0 hr0) j (ready_mono hj hji)
      omega
  | succ f ih =>
    intro listed a S inv hfree hr hy H
    have hun := (mem_ready.1 hr).1
    refine ⟨fun h => (by rw [h] at hr; cases hr), fun j hj => ?_⟩
    have hjn : j < n + 1 := hT listed inv j hj
    by_cases hjn' : j = n
    · exfalso
      subst hjn'
      obtain ⟨v0, T0, hr0⟩ := hy.some
      have hji : j ≠ i := by omega
      rcases (H v0 T0 hr0).2 j (ready_mono hj hji) with ⟨h1, _⟩ | ⟨_, h2, h3⟩
      · omega
      · have hie : i ≠ e := fun h => by
          subst h
          have h5 := (mem_ready.1 h3).1
          have hs : i < listed.size := by rw [inv.size]; exact (Array.getElem?_eq_some_iff.1 hi).1
          rw [Array.getD_eq_getD_getElem?, Array.getElem?_setIfInBounds_self_of_lt hs] at h5
          cases h5
        have := hE listed inv hj i hin hie
        rw [hun] at this; cases this
    have hjn : j < n := by omega
    refine .inl ⟨hjn, ?_⟩
    by_cases hji : j = i
    · subst hji; unfold mOp; simp only [hi]; exact ⟨hy, H⟩
    · obtain ⟨hjun, oj, hoj, hall⟩ := mem_ready.1 hj
      have hnot : ∀ e ∈ oj.after, Region.binds md e = true → e.on ≠ i := fun e he hb heq => by
        have h1 := hall e he hb
        rw [heq, getD_both hun] at h1
        cases h1
      have h2 := mOp_put (K := wpAnyE P md ops M w n e L f ((listed.setIfInBounds i true).setIfInBounds j true)) hoj (hfree j oj hoj hji hjun hnot) (fun cs b => hsel i oi cs b hi) (fun cs b => hsel j oj cs b hoj) hy
        (fun v T hv => by
          rcases (H v T hv).2 j (ready_mono hj hji) with h3 | ⟨h3, _⟩
          · exact h3.2
          · omega)
      have hfree' : ∀ k ok, ops[k]? = some ok → k ≠ i → (listed.setIfInBounds j true).getD k true = false →
          (∀ e ∈ ok.after, Region.binds md e = true → e.on ≠ i) → oi.apart ops ok = true := fun k ok hk hki hun hno => by
        refine hfree k ok hk hki ?_ hno
        by_cases hjk : j = k
        · subst hjk; exact hjun
        · rw [getD_set_ne true hjk] at hun; exact hun
      refine mOp_mono (fun a' S' h3 => ih (listed.setIfInBounds j true) a' S' (inv.set hj hjn) hfree' (ready_mono hr (Ne.symm hji)) h3.1 ?_) h2
      rw [Array.setIfInBounds_comm _ _ hji]
      exact h3.2

theorem wpAnyE_lex {n e : Nat} {Lq : Act → (World → Prop) → Prop} {B : Array Bool → Prop} {lex : Nat → Nat → Array Bool → Bool}
    (h0B : ∀ k listed, lex 0 k listed = true → k = n → B listed) (h1B : ∀ f k listed, lex (f + 1) k listed = true → (Region.ready md ops listed).contains k = true ∧ Region.free md ops listed k = true ∧ lex f (k + 1) (listed.setIfInBounds k true) = true)
    (hsel : Region.noSelect ops = true) (hT : ∀ listed, HeadInv md ops n listed → ∀ j ∈ Region.ready md ops listed, j < n + 1) (hE : ∀ listed, HeadInv md ops n listed → n ∈ Region.ready md ops listed → ∀ k, k < n → k ≠ e → listed.getD k true = true)
    (hdone : ∀ listed, B listed → ∀ j ∈ Region.ready md ops listed, n ≤ j) :
    ∀ (l : List Oper) (k : Nat) (listed : Array Bool) (a : Act) (S : World → Prop), (∀ j, j < l.length → l[j]? = ops[k + j]?) → k + l.length = n → HeadInv md ops n listed →
    lex l.length k listed = true → wpMk P ops M w Lq l a S →
    wpAnyE P md ops M w n e (fun listed' a' S' => B listed' ∧ Lq a' S') l.length listed a S
  | [], k, listed, a, S, _, hk, _, hB, h => by
    have : k = n := by simpa using hk
    exact ⟨h0B k listed (by simpa using hB) this, h⟩
  | o :: l, k, listed, a, S, hl, hk, inv, hB, h => by
    have h0 : ops[k]? = some o := by simpa using (hl 0 (by simp)).symm
    obtain ⟨hr, hf, hB'⟩ := h1B _ _ _ hB
    have hkn : k < n := by simp only [List.length_cons] at hk; omega
    have hr' : k ∈ Region.ready md ops listed := by simpa using hr
    exact wpAnyE_first h0 hkn (Region.noSelect_spec hsel) hT hE (fun listed' a' S' hL => hdone _ hL.1) l.length listed a S inv (Region.free_spec h0 hf) hr' h.1
      (fun v T hv => wpAnyE_lex h0B h1B hsel hT hE hdone l (k + 1) _ _ _ (fun j hj => by have := hl (j + 1) (by simp; omega); simpa [Nat.add_assoc, Nat.add_comm 1 j] using this) (by simp only [List.length_cons] at hk; omega) (inv.set hr' hkn) hB' (h.2 v T hv))

/-- The last operation's outcome. -/
def OutL (P : Program) (ops : Array Oper) (K : Act → World → Prop) (o : Oper) (a : Act) (x : World) : Prop :=
  Region.wanted o (yielded ops a.tmps) = true ∧ ((∃ u x', (execOp a.eval o).run P x = .ok (.value u) x' ∧ K (a.put o.dst u) x') ∨ (∃ x', (execOp a.eval o).run P x = .ok .skip x' ∧ K (a.put o.dst undef) x'))
theorem OutL.wp {K : Act → World → Prop} {Q' : Exit → Act → World → Prop} {n : Nat} {o : Oper} {a : Act} {x : World} (ho : ops[n]? = some o) (h : OutL P ops K o a x) : wpOp P ops Q' n K a x := by
  obtain ⟨hw, h⟩ := h
  unfold wpOp
  simp only [ho]
  rw [if_pos hw]
  refine .inl ?_
  unfold Oper.wp
  rcases h with ⟨u, x', h1, h2⟩ | ⟨x', h1, h2⟩ <;> rw [h1] <;> exact h2

theorem OutL.mono {K K' : Act → World → Prop} {o : Oper} {a : Act} {x : World} (hk : ∀ a x, K a x → K' a x) (h : OutL P ops K o a x) : OutL P ops K' o a x :=
  ⟨h.1, h.2.imp (fun ⟨u, x', h1, h2⟩ => ⟨u, x', h1, hk _ _ h2⟩) (fun ⟨x', h1, h2⟩ => ⟨x', h1, hk _ _ h2⟩)⟩

theorem wpAny_of_headE {n e : Nat} {oe on : Oper} {tl : List Oper} {Lq : Act → World → Prop} {Q' : Exit → Act → World → Prop} (hsz : n < ops.size) (hen : e < n) (hoe : ops[e]? = some oe) (hon : ops[n]? = some on) (hpu : PureO P oe)
    (hsele : ∀ cs b, oe.op ≠ .select cs b) (hseln : ∀ cs b, on.op ≠ .select cs b) (hap : oe.apart ops on = true) (hE : ∀ listed, HeadInv md ops n listed → n ∈ Region.ready md ops listed → ∀ k, k < n → k ≠ e → listed.getD k true = true)
    (htl : ∀ j, tl[j]? = ops[n + 1 + j]?) (hTl : ∀ listed, HeadInv md ops n listed → listed.getD e true = false → ∀ j ∈ Region.ready md ops (listed.setIfInBounds n true), j < n)
    (hQ : ∀ a x, Lq a x → OutL P ops (wpList P ops Q' tl) on a x) :
    ∀ (f : Nat) (listed : Array Bool) (a : Act) (S : World → Prop) (x : World), HeadInv md ops n listed → Up w x → S x → KeptS S →
      wpAnyE P md ops M w n e (fun listed a' S' => Region.seqB md ops (tl.length + 1) n listed = true ∧ ∀ x, Up w x → S' x → Lq a' x) f listed a S → wpAny P md ops Q' (f + (tl.length + 1)) listed a x
  | 0, listed, a, S, x, inv, hx, hS, hk, h => by
    obtain ⟨hB, hL⟩ := h
    simp only [Region.seqB, Bool.and_eq_true, decide_eq_true_eq] at hB
    rw [Nat.zero_add]
    refine ⟨fun h1 => (by rw [hB.1] at h1; cases h1), fun i hi => ?_⟩
    rw [hB.1] at hi
    obtain rfl : i = n := by simpa using hi
    exact OutL.wp hon ((hQ a x (hL x hx hS)).mono fun a' x' h' => wpAny_of_seq tl (i + 1) _ a' x' htl hB.2 h')
  | f + 1, listed, a, S, x, inv, hx, hS, hk, h => by
    rw [show f + 1 + (tl.length + 1) = (f + (tl.length + 1)) + 1 by omega]
    refine ⟨fun h0 => absurd h0 h.1, fun i hi => ?_⟩
    rcases h.2 i hi with ⟨hin, hm⟩ | ⟨rfl, rfl, he⟩
    · exact wpOp_of_mOp hx hS hk (fun a' S' x' h1 h2 h3 h' => wpAny_of_headE hsz hen hoe hon hpu hsele hseln hap hE htl hTl hQ f _ a' S' x' (inv.set hi hin) h1 h2 h3 h') hm
    · have hall := hE listed inv hi
      have hlsz := inv.size
      obtain ⟨_, hm⟩ := (h.2 e he).resolve_right (fun h1 => by have := h1.1; omega)
      obtain ⟨p1, p2, p3⟩ := Oper.apart_spec hap
      have hun := (mem_ready.1 he).1
      have hready : ∀ j ∈ Region.ready md ops (listed.setIfInBounds i true), j = e := fun j hj => by
        have hjl := hTl listed inv hun j hj
        obtain ⟨g1, oj, hoj, _⟩ := mem_ready.1 hj
        rw [getD_set_ne true (by omega : i ≠ j)] at g1
        by_cases hje : j = e
        · exact hje
        · rw [hall j hjl hje] at g1; cases g1
      have her : e ∈ Region.ready md ops (listed.setIfInBounds i true) := ready_mono he (by omega)
      rw [Nat.zero_add]
      unfold mOp at hm
      simp only [hoe] at hm
      obtain ⟨hg, hn⟩ := hm
      by_cases hw : Region.wanted oe (yielded ops a.tmps) = true
      · have hgx := hg hw x hx
        obtain ⟨v, hv⟩ : ∃ v, ∀ y, (execOp a.eval oe).run P y = .ok (.value v) y := by
          revert hgx
          cases hr : (execOp a.eval oe).run P x with
          | halt _ _ => intro hgx; exact absurd hgx (by simp [GoodR])
          | ok r x1 =>
            intro _
            obtain ⟨_, ⟨v, rfl⟩, _⟩ := hpu a.eval x x x1 r hr
            exact ⟨v, fun y => (hpu a.eval x y x1 _ hr).2.2⟩
        have hsp : SPM P M w oe a v x := ⟨x, x, hx, by rw [hv]; exact ⟨rfl, rfl⟩, Up.refl x⟩
        have hr : mRes P ops M w oe a v (SPM P M w oe a v) := by unfold mRes; rw [if_pos hw]; exact ⟨⟨x, hx, hsp⟩, rfl⟩
        obtain ⟨hB, hL⟩ := hn v _ hr
        simp only [Region.seqB, Bool.and_eq_true, decide_eq_true_eq] at hB
        obtain ⟨hwn, ho⟩ := hQ _ x (hL x hx ⟨hS, hsp⟩)
        rw [wanted_put on a oe.dst v p1] at hwn
        rw [execOp_put on hseln a oe.dst v p1] at ho
        have hfin : ∀ u x', wpList P ops Q' tl ((a.put oe.dst v).put on.dst u) x' → wpAny P md ops Q' (tl.length + 1) (listed.setIfInBounds i true) (a.put on.dst u) x' := fun u x' hq => by
          refine ⟨fun h0 => (by rw [h0] at her; cases her), fun j hj => ?_⟩
          obtain rfl := hready j hj
          unfold wpOp
          simp only [hoe]
          rw [wanted_put oe a on.dst u p3, if_pos hw]
          refine .inl ?_
          unfold Oper.wp
          rw [execOp_put oe hsele a on.dst u p3, hv]
          refine wpAny_of_seq tl (i + 1) _ _ x' htl ?_ ?_
          · rw [Array.setIfInBounds_comm _ _ (by omega)]; exact hB.2
          · rw [Act.put_comm a v u p2] at hq; exact hq
        exact OutL.wp hon ⟨hwn, ho.imp (fun ⟨u, x', h1, h2⟩ => ⟨u, x', h1, hfin u x' h2⟩) (fun ⟨x', h1, h2⟩ => ⟨x', h1, hfin undef x' h2⟩)⟩
      · have hr : mRes P ops M w oe a undef (fun _ => True) := by unfold mRes; rw [if_neg hw]; exact ⟨rfl, rfl⟩
        obtain ⟨hB, hL⟩ := hn undef _ hr
        simp only [Region.seqB, Bool.and_eq_true, decide_eq_true_eq] at hB
        obtain ⟨hwn, ho⟩ := hQ _ x (hL x hx ⟨hS, trivial⟩)
        rw [wanted_put on a oe.dst undef p1] at hwn
        rw [execOp_put on hseln a oe.dst undef p1] at ho
        have hfin : ∀ u x', wpList P ops Q' tl ((a.put oe.dst undef).put on.dst u) x' → wpAny P md ops Q' (tl.length + 1) (listed.setIfInBounds i true) (a.put on.dst u) x' := fun u x' hq => by
          refine ⟨fun h0 => (by rw [h0] at her; cases her), fun j hj => ?_⟩
          obtain rfl := hready j hj
          unfold wpOp
          simp only [hoe]
          rw [wanted_put oe a on.dst u p3, if_neg hw]
          refine wpAny_of_seq tl (i + 1) _ _ x' htl ?_ ?_
          · rw [Array.setIfInBounds_comm _ _ (by omega)]; exact hB.2
          · rw [Act.put_comm a undef u p2] at hq; exact hq
        exact OutL.wp hon ⟨hwn, ho.imp (fun ⟨u, x', h1, h2⟩ => ⟨u, x', h1, hfin u x' h2⟩) (fun ⟨x', h1, h2⟩ => ⟨x', h1, hfin undef x' h2⟩)⟩

def chainEB (md : Region.Mode) (ops : Array Oper) (n e : Nat) : Bool :=
  (List.range ops.size).all fun t => decide (t ≤ n) || (Region.waitsFor md ops t (t - 1) && (decide (t ≠ n + 1) || Region.waitsFor md ops t e))
theorem chainEB_T {n e : Nat} (h : chainEB md ops n e = true) (listed : Array Bool) (inv : HeadInv md ops n listed) (j : Nat) (hj : j ∈ Region.ready md ops listed) : j < n + 1 := by
  obtain ⟨_, oj, hoj, hall⟩ := mem_ready.1 hj
  have hjs := (Array.getElem?_eq_some_iff.1 hoj).1
  have h1 := List.all_eq_true.1 h j (List.mem_range.2 hjs)
  simp only [Bool.or_eq_true, Bool.and_eq_true, decide_eq_true_eq] at h1
  rcases h1 with h1 | ⟨h1, _⟩
  · omega
  · obtain ⟨o', ho', ed, he, hb, hon⟩ := Region.waitsFor_spec h1
    have : o' = oj := Option.some.inj (ho'.symm.trans hoj)
    subst this
    have h2 := hall ed he hb
    by_cases hjn : j ≤ n
    · omega
    · rw [hon, getD_both (inv.tail (j - 1) (by omega) (by omega))] at h2
      cases h2
theorem chainEB_Tl {n e : Nat} (h : chainEB md ops n e = true) (hsz : n < ops.size) (hen : e < n) (listed : Array Bool) (inv : HeadInv md ops n listed) (hun : listed.getD e true = false) (j : Nat) (hj : j ∈ Region.ready md ops (listed.setIfInBounds n true)) : j < n := by
  obtain ⟨hu, oj, hoj, hall⟩ := mem_ready.1 hj
  have hjs := (Array.getElem?_eq_some_iff.1 hoj).1
  have hls := inv.size
  have h1 := List.all_eq_true.1 h j (List.mem_range.2 hjs)
  simp only [Bool.or_eq_true, Bool.and_eq_true, decide_eq_true_eq] at h1
  rcases h1 with h1 | ⟨h1, h1'⟩
  · by_cases hjn : j = n
    · subst hjn
      rw [Array.getD_eq_getD_getElem?, Array.getElem?_setIfInBounds_self_of_lt (by omega)] at hu
      cases hu
    · omega
  · by_cases hjn : j < n
    · exact hjn
    · exfalso
      by_cases hjn' : j = n
      · subst hjn'
        rw [Array.getD_eq_getD_getElem?, Array.getElem?_setIfInBounds_self_of_lt (by omega)] at hu
        cases hu
      by_cases hj1 : j = n + 1
      · subst hj1
        obtain ⟨o', ho', ed, he, hb, hon⟩ := Region.waitsFor_spec (h1'.resolve_left (by simp))
        have : o' = oj := Option.some.inj (ho'.symm.trans hoj)
        subst this
        have h2 := hall ed he hb
        rw [hon, getD_set_ne false (by omega : n ≠ e), getD_both hun] at h2
        cases h2
      · obtain ⟨o', ho', ed, he, hb, hon⟩ := Region.waitsFor_spec h1
        have : o' = oj := Option.some.inj (ho'.symm.trans hoj)
        subst this
        have h2 := hall ed he hb
        rw [hon, getD_set_ne false (by omega : n ≠ j - 1), getD_both (inv.tail (j - 1) (by omega) (by omega))] at h2
        cases h2

def lexLateB (md : Region.Mode) (ops : Array Oper) (n e : Nat) : Bool :=
  Region.noSelect ops && decide (n < ops.size) && decide (e < n) && sinkEB md ops n e && chainEB md ops n e && Region.lexHead md ops (ops.size - n) n 0 (Array.replicate ops.size false) &&
    (match ops[e]?, ops[n]? with
     | some oe, some on => oe.apart ops on && (match oe.op with | .extract _ _ => true | _ => false)
     | _, _ => false)

/-- The head once, in the text's order; then the last operation, given by its run; then what waits for it. -/
theorem wp_region_late {id : Nat} {Q : Exit → Act → World → Prop} {a : Act} {l : List Oper} (n e : Nat) (on : Oper) (M : FuncId → Array Value → Value → World → Prop) (hm : P.follows .mixedOrders = true) (hB : lexLateB .any l.toArray n e = true) (hon : l.toArray[n]? = some on)
    (h : wpMk P l.toArray M w (fun a' S => ∀ x, Up w x → S x → OutL P l.toArray (wpList P l.toArray Q (l.drop (n + 1))) on a' x) (l.take n) a (fun _ => True)) : (Code.region id l.toArray true).wp P Q a w := by
  simp only [lexLateB, Bool.and_eq_true, decide_eq_true_eq] at hB
  obtain ⟨⟨⟨⟨⟨⟨hsel, hsz⟩, hen⟩, hs⟩, hch⟩, hlex⟩, hx⟩ := hB
  obtain ⟨oe, hoe⟩ : ∃ oe, l.toArray[e]? = some oe := ⟨_, Array.getElem?_eq_getElem (by omega)⟩
  rw [hoe, hon] at hx
  simp only [Bool.and_eq_true] at hx
  obtain ⟨hap, hex⟩ := hx
  obtain ⟨t, k, hop⟩ : ∃ t k, oe.op = .extract t k := by
    revert hex
    cases oe.op <;> simp
  have hn' : n < l.length := by simpa using hsz
  have htl : (l.take n).length = n := by simp; omega
  have hdl : (l.drop (n + 1)).length + 1 = l.toArray.size - n := by simp; omega
  have inv0 : HeadInv .any l.toArray n (Array.replicate l.toArray.size false) :=
    ⟨by simp, fun j oj _ hl => (by rw [getD_replicate_false] at hl; cases hl), fun t _ ht => getD_in (by simpa using ht) (getD_replicate_false _ _)⟩
  have hE : ∀ listed, HeadInv .any l.toArray n listed → n ∈ Region.ready .any l.toArray listed → ∀ k, k < n → k ≠ e → listed.getD k true = true := fun listed inv hr k hk hke => tail_waitsE hs hsz hen inv hr _ k rfl hk hke
  have H := wpAnyE_lex (md := .any) (n := n) (e := e) (B := fun listed => Region.seqB .any l.toArray (l.toArray.size - n) n listed = true) (lex := Region.lexHead .any l.toArray (l.toArray.size - n))
    (fun k listed h1 h2 => by subst h2; simpa [Region.lexHead] using h1) (fun f k listed h1 => by
      simp only [Region.lexHead, Bool.and_eq_true] at h1; exact ⟨h1.1.1, h1.1.2, h1.2⟩) hsel (chainEB_T hch) hE
    (fun listed h1 => seqB_ready h1) (l.take n) 0 _ a _ (fun j hj => by
    have hj' : j < n := by rw [htl] at hj; exact hj
    simp [hj']) (by simpa using htl) inv0 (by rw [htl]; exact hlex) h
  rw [← hdl] at H
  refine wp_region_any hm ?_
  have := wpAny_of_headE (Q' := Q) (tl := l.drop (n + 1)) hsz hen hoe hon (pureO_extract hop) (Region.noSelect_spec hsel e oe · · hoe) (Region.noSelect_spec hsel n on · · hon) hap hE (fun j => by simp [List.getElem?_drop]) (chainEB_Tl hch hsz hen) (Lq := fun a' x => OutL P l.toArray (wpList P l.toArray Q (l.drop (n + 1))) on a' x) (fun a' x hq => hq) _ _ _ _ { w with drawn := w.drawn + 1 } inv0 (Up.refl w).drew trivial (fun _ _ _ _ => trivial) H
  rw [htl, hdl, show n + (l.toArray.size - n) = l.toArray.size by omega] at this
  exact this
end
end Go.Proofs.Ytpccaifhcmcegaa
