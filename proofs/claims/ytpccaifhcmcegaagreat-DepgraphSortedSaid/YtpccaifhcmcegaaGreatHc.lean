/-
  Joined by a program: Mk, MkS, Bx, Md.
-/
import Derived.Test.YtpccaifhcmcegaaGreatHa
import Derived.StillTail
import Derived.Deep.QuietTactic

section
namespace Go.Proofs.YtpccaifhcmcegaaGreat
open Go.ChangeShapes Go.WideShapes Go.ChangeAt Go.RowKit
set_option linter.unusedVariables false
set_option linter.unusedSimpArgs false

section
variable {P : Program} {ops : Array Oper} {md : Region.Mode} {w : World} {M : FuncId → Array Value → Value → World → Prop}

/-- What an operation that comes up in the world x may end in: it only makes memory; a call keeps to the table of contracts M. -/
def GoodR (P : Program) (M : FuncId → Array Value → Value → World → Prop) (x : World) : Result Next → Prop
  | .ok (.value _) x1 => Up x x1
  | .ok .skip x1 => Up x x1
  | .ok (.enter f args) x1 => Up x x1 ∧ Calls P f args x1 fun e x' => ∃ v, e = .returned v ∧ Up x1 x' ∧ M f args v x'
  | _ => False
/-- The outcome v, x'. -/
def OutR (M : FuncId → Array Value → Value → World → Prop) (v : Value) (x' : World) : Result Next → Prop
  | .ok (.value u) x1 => u = v ∧ x1 = x'
  | .ok .skip x1 => v = undef ∧ x1 = x'
  | .ok (.enter f args) x1 => Up x1 x' ∧ M f args v x'
  | _ => False
def GoodM (P : Program) (M : FuncId → Array Value → Value → World → Prop) (w : World) (o : Oper) (a : Act) : Prop := ∀ x, Up w x → GoodR P M x ((execOp a.eval o).run P x)
def SPM (P : Program) (M : FuncId → Array Value → Value → World → Prop) (w : World) (o : Oper) (a : Act) (v : Value) (y : World) : Prop := ∃ x x', Up w x ∧ OutR M v x' ((execOp a.eval o).run P x) ∧ Up x' y
def mGood (P : Program) (ops : Array Oper) (M : FuncId → Array Value → Value → World → Prop) (w : World) (o : Oper) (a : Act) : Prop := Region.wanted o (yielded ops a.tmps) = true → GoodM P M w o a
def mRes (P : Program) (ops : Array Oper) (M : FuncId → Array Value → Value → World → Prop) (w : World) (o : Oper) (a : Act) (v : Value) (T : World → Prop) : Prop :=
  if Region.wanted o (yielded ops a.tmps) = true then (∃ y, Up w y ∧ SPM P M w o a v y) ∧ T = SPM P M w o a v else v = undef ∧ T = fun _ => True
def mStep (P : Program) (ops : Array Oper) (M : FuncId → Array Value → Value → World → Prop) (w : World) (o : Oper) (K : Act → (World → Prop) → Prop) (a : Act) (S : World → Prop) : Prop :=
  mGood P ops M w o a ∧ ∀ v T, mRes P ops M w o a v T → K (a.put o.dst v) (fun y => S y ∧ T y)
def mOp (P : Program) (ops : Array Oper) (M : FuncId → Array Value → Value → World → Prop) (w : World) (i : Nat) (K : Act → (World → Prop) → Prop) (a : Act) (S : World → Prop) : Prop :=
  match ops[i]? with
  | none => K a S
  | some o => mStep P ops M w o K a S
/-- The walk in the text's order. -/
def wpMk (P : Program) (ops : Array Oper) (M : FuncId → Array Value → Value → World → Prop) (w : World) (L : Act → (World → Prop) → Prop) : List Oper → Act → (World → Prop) → Prop
  | [], a, S => L a S
  | o :: rest, a, S => mStep P ops M w o (wpMk P ops M w L rest) a S

def KeptS (S : World → Prop) : Prop := ∀ x y, S x → Up x y → S y
theorem SPM.kept {o : Oper} {a : Act} {v : Value} : KeptS (SPM P M w o a v) := fun _ _ ⟨x, x', h1, h2, h3⟩ hu => ⟨x, x', h1, h2, h3.trans hu⟩
theorem mRes.kept {o : Oper} {a : Act} {v : Value} {T : World → Prop} (h : mRes P ops M w o a v T) : KeptS T := by
  unfold mRes at h
  split at h
  · rw [h.2]; exact SPM.kept
  · rw [h.2]; exact fun _ _ _ _ => trivial
theorem mStep_mono {o : Oper} {K K' : Act → (World → Prop) → Prop} {a : Act} {S : World → Prop} (h : ∀ a S, K a S → K' a S) (hh : mStep P ops M w o K a S) : mStep P ops M w o K' a S :=
  ⟨hh.1, fun v T hr => h _ _ (hh.2 v T hr)⟩
theorem mOp_mono {i : Nat} {K K' : Act → (World → Prop) → Prop} {a : Act} {S : World → Prop} (h : ∀ a S, K a S → K' a S) (hh : mOp P ops M w i K a S) : mOp P ops M w i K' a S := by
  unfold mOp at *
  split
  · rename_i ho; simp only [ho] at hh; exact h _ _ hh
  · rename_i o ho; simp only [ho] at hh; exact mStep_mono h hh
theorem GoodM.some {o : Oper} {a : Act} (h : GoodM P M w o a) : ∃ v y, Up w y ∧ SPM P M w o a v y := by
  have h0 := h w (Up.refl w)
  have key : ∀ r : Result Next, GoodR P M w r → ∃ v x', Up w x' ∧ OutR M v x' r := fun r hr => by
    cases r with
    | ok n x1 =>
      cases n with
      | value u => exact ⟨u, x1, hr, rfl, rfl⟩
      | skip => exact ⟨undef, x1, hr, rfl, rfl⟩
      | enter f args =>
        obtain ⟨hu, hc⟩ := hr
        obtain ⟨e, w', fr, ⟨v, _, h2, h3⟩, _⟩ := hc []
        exact ⟨v, w', hu.trans h2, h2, h3⟩
      | _ => exact absurd hr (by simp [GoodR])
    | halt _ _ => exact absurd hr (by simp [GoodR])
  obtain ⟨v, x', h1, h2⟩ := key _ h0
  exact ⟨v, x', h1, w, x', Up.refl w, h2, Up.refl _⟩
theorem mGood.some {o : Oper} {a : Act} (h : mGood P ops M w o a) : ∃ v T, mRes P ops M w o a v T := by
  unfold mRes
  by_cases hw : Region.wanted o (yielded ops a.tmps) = true
  · obtain ⟨v, y, h1, h2⟩ := (h hw).some
    exact ⟨v, _, by rw [if_pos hw]; exact ⟨⟨y, h1, h2⟩, rfl⟩⟩
  · exact ⟨undef, _, by rw [if_neg hw]; exact ⟨rfl, rfl⟩⟩

theorem mGood_put {o : Oper} {a : Act} (hs : ∀ cs b, o.op ≠ .select cs b) (dst : Option Tmp) (u : Value) (h : ∀ d, dst = some d → d ∉ o.looksAt ops) : mGood P ops M w o (a.put dst u) ↔ mGood P ops M w o a := by
  unfold mGood GoodM
  rw [execOp_put o hs a dst u h, wanted_put o a dst u h]
theorem mRes_put {o : Oper} {a : Act} (hs : ∀ cs b, o.op ≠ .select cs b) (dst : Option Tmp) (u : Value) (h : ∀ d, dst = some d → d ∉ o.looksAt ops) (v : Value) (T : World → Prop) : mRes P ops M w o (a.put dst u) v T ↔ mRes P ops M w o a v T := by
  unfold mRes SPM
  rw [execOp_put o hs a dst u h, wanted_put o a dst u h]

theorem mOp_put {j : Nat} {oi oj : Oper} (hj : ops[j]? = some oj) (hap : oi.apart ops oj = true)
    (hsi : ∀ cs b, oi.op ≠ .select cs b) (hsj : ∀ cs b, oj.op ≠ .select cs b) {K : Act → (World → Prop) → Prop} {a : Act} {S : World → Prop}
    (hy : mGood P ops M w oi a) (h : ∀ v T, mRes P ops M w oi a v T → mOp P ops M w j K (a.put oi.dst v) (fun y => S y ∧ T y)) :
    mOp P ops M w j (fun a' S' => mGood P ops M w oi a' ∧ ∀ v T, mRes P ops M w oi a' v T → K (a'.put oi.dst v) (fun y => S' y ∧ T y)) a S := by
  obtain ⟨h1, h2, h3⟩ := Oper.apart_spec hap
  unfold mOp at *
  simp only [hj] at *
  obtain ⟨v0, T0, hr0⟩ := hy.some
  refine ⟨(mGood_put hsj oi.dst v0 h1).1 (h v0 T0 hr0).1, fun u U hu => ⟨(mGood_put hsi oj.dst u h3).2 hy, fun v T hv => ?_⟩⟩
  have hv' := (mRes_put hsi oj.dst u h3 v T).1 hv
  have := (h v T hv').2 u U ((mRes_put hsj oi.dst v h1 u U).2 hu)
  rw [Act.put_comm a v u h2] at this
  have e : (fun y => (S y ∧ T y) ∧ U y) = (fun y => (S y ∧ U y) ∧ T y) := funext fun y => propext ⟨fun ⟨⟨a, b⟩, c⟩ => ⟨⟨a, c⟩, b⟩, fun ⟨⟨a, b⟩, c⟩ => ⟨⟨a, c⟩, b⟩⟩
  rw [e] at this
  exact this

def wpAnyM (P : Program) (md : Region.Mode) (ops : Array Oper) (M : FuncId → Array Value → Value → World → Prop) (w : World) (n : Nat) (L : Array Bool → Act → (World → Prop) → Prop) : Nat → Array Bool → Act → (World → Prop) → Prop
  | 0, listed, a, S => L listed a S
  | f + 1, listed, a, S =>
    Region.ready md ops listed ≠ [] ∧ ∀ i ∈ Region.ready md ops listed, i < n ∧ mOp P ops M w i (wpAnyM P md ops M w n L f (listed.setIfInBounds i true)) a S

theorem wpOp_of_mOp {i : Nat} {a : Act} {S : World → Prop} {K : Act → (World → Prop) → Prop} {K' : Act → World → Prop} {Q' : Exit → Act → World → Prop} {x : World} (hx : Up w x) (hS : S x) (hk : KeptS S)
    (h : ∀ a S x', Up w x' → S x' → KeptS S → K a S → K' a x') (hh : mOp P ops M w i K a S) : wpOp P ops Q' i K' a x := by
  unfold mOp at hh
  unfold wpOp
  split
  · rename_i ho; simp only [ho] at hh; exact h _ _ _ hx hS hk hh
  · rename_i o ho
    simp only [ho] at hh
    obtain ⟨hg, hn⟩ := hh
    split
    · rename_i hw
      refine .inl ?_
      have hgx := hg hw x hx
      have hn' : ∀ v x', Up x x' → OutR M v x' ((execOp a.eval o).run P x) → K' (a.put o.dst v) x' := fun v x' hu ho => by
        have hsp : SPM P M w o a v x' := ⟨x, x', hx, ho, Up.refl _⟩
        have hr : mRes P ops M w o a v (SPM P M w o a v) := by
          unfold mRes; rw [if_pos hw]; exact ⟨⟨x', hx.trans hu, hsp⟩, rfl⟩
        exact h _ _ _ (hx.trans hu) ⟨hk _ _ hS hu, hsp⟩ (fun y z hy hz => ⟨hk _ _ hy.1 hz, SPM.kept _ _ hy.2 hz⟩) (hn v _ hr)
      unfold Oper.wp
      generalize (execOp a.eval o).run P x = r at *
      cases r with
      | ok n x1 =>
        cases n with
        | value u => exact hn' u x1 hgx ⟨rfl, rfl⟩
        | skip => exact hn' undef x1 hgx ⟨rfl, rfl⟩
        | enter f args =>
          obtain ⟨hu, hc⟩ := hgx
          rw [Oper.upon_enter]
          refine hc.mono fun e x' ⟨v, he, h2, h3⟩ => ?_
          subst he
          exact hn' v x' (hu.trans h2) ⟨h2, h3⟩
        | _ => exact absurd hgx (by simp [GoodR])
      | halt _ _ => exact absurd hgx (by simp [GoodR])
    · rename_i hw
      have hr : mRes P ops M w o a undef (fun _ => True) := by unfold mRes; rw [if_neg hw]; exact ⟨rfl, rfl⟩
      exact h _ _ _ hx ⟨hS, trivial⟩ (fun y z hy hz => ⟨hk _ _ hy.1 hz, trivial⟩) (hn _ _ hr)

theorem wpAny_of_headM {n g : Nat} {L : Array Bool → Act → (World → Prop) → Prop} {Q' : Exit → Act → World → Prop} (hL : ∀ listed a S x, Up w x → S x → KeptS S → L listed a S → wpAny P md ops Q' g listed a x) :
    ∀ (f : Nat) (listed : Array Bool) (a : Act) (S : World → Prop) (x : World), Up w x → S x → KeptS S → wpAnyM P md ops M w n L f listed a S → wpAny P md ops Q' (f + g) listed a x
  | 0, listed, a, S, x, hx, hS, hk, h => by rw [Nat.zero_add]; exact hL _ _ _ _ hx hS hk h
  | f + 1, listed, a, S, x, hx, hS, hk, h => by
    rw [show f + 1 + g = (f + g) + 1 by omega]
    exact ⟨fun h0 => absurd h0 h.1, fun i hi => wpOp_of_mOp hx hS hk (fun a' S' x' h1 h2 h3 h' => wpAny_of_headM hL f _ a' S' x' h1 h2 h3 h') (h.2 i hi).2⟩

theorem wpAnyM_first {n i : Nat} {oi : Oper} {L : Array Bool → Act → (World → Prop) → Prop} (hi : ops[i]? = some oi) (hsel : ∀ (j : Nat) (o : Oper) cs b, ops[j]? = some o → o.op ≠ .select cs b)
    (hlt : ∀ listed, HeadInv md ops n listed → i ∈ Region.ready md ops listed → ∀ j ∈ Region.ready md ops listed, j < n)
    (hdone : ∀ listed a S, L listed a S → ∀ j ∈ Region.ready md ops listed, n ≤ j) :
    ∀ (f : Nat) (listed : Array Bool) (a : Act) (S : World → Prop), HeadInv md ops n listed →
      (∀ j oj, ops[j]? = some oj → j ≠ i → listed.getD j true = false → (∀ e ∈ oj.after, Region.binds md e = true → e.on ≠ i) → oi.apart ops oj = true) →
      i ∈ Region.ready md ops listed → mGood P ops M w oi a →
      (∀ v T, mRes P ops M w oi a v T → wpAnyM P md ops M w n L f (listed.setIfInBounds i true) (a.put oi.dst v) (fun y => S y ∧ T y)) → wpAnyM P md ops M w n L (f + 1) listed a S := by
  intro f
  induction f with
  | zero =>
    intro listed a S inv _ hr hy H
    have hun := (mem_ready.1 hr).1
    refine ⟨fun h => (by rw [h] at hr; cases hr), fun j hj => ?_⟩
    have hjn : j < n := hlt listed inv hr j hj
    refine ⟨hjn, ?_⟩
    by_cases hji : j = i
    · subst hji; unfold mOp; simp only [hi]; exact ⟨hy, H⟩
    · obtain ⟨v0, T0, hr0⟩ := hy.some
      have := hdone _ _ _ (H v0 T0 hr0) j (ready_mono hj hji)
      omega
  | succ f ih =>
    intro listed a S inv hfree hr hy H
    have hun := (mem_ready.1 hr).1
    refine ⟨fun h => (by rw [h] at hr; cases hr), fun j hj => ?_⟩
    have hjn : j < n := hlt listed inv hr j hj
    refine ⟨hjn, ?_⟩
    by_cases hji : j = i
    · subst hji; unfold mOp; simp only [hi]; exact ⟨hy, H⟩
    · obtain ⟨hjun, oj, hoj, hall⟩ := mem_ready.1 hj
      have hnot : ∀ e ∈ oj.after, Region.binds md e = true → e.on ≠ i := fun e he hb heq => by
        have h1 := hall e he hb
        rw [heq, getD_both hun] at h1
        cases h1
      have h2 := mOp_put (K := wpAnyM P md ops M w n L f ((listed.setIfInBounds i true).setIfInBounds j true)) hoj (hfree j oj hoj hji hjun hnot) (fun cs b => hsel i oi cs b hi) (fun cs b => hsel j oj cs b hoj) hy
        (fun v T hv => ((H v T hv).2 j (ready_mono hj hji)).2)
      have hfree' : ∀ k ok, ops[k]? = some ok → k ≠ i → (listed.setIfInBounds j true).getD k true = false →
          (∀ e ∈ ok.after, Region.binds md e = true → e.on ≠ i) → oi.apart ops ok = true := fun k ok hk hki hun hno => by
        refine hfree k ok hk hki ?_ hno
        by_cases hjk : j = k
        · subst hjk; exact hjun
        · rw [getD_set_ne true hjk] at hun; exact hun
      refine mOp_mono (fun a' S' h3 => ih (listed.setIfInBounds j true) a' S' (inv.set hj hjn) hfree' (ready_mono hr (Ne.symm hji)) h3.1 ?_) h2
      rw [Array.setIfInBounds_comm _ _ hji]
      exact h3.2

theorem wpAnyM_lex {n : Nat} {Lq : Act → (World → Prop) → Prop} {B : Array Bool → Prop} {lex : Nat → Nat → Array Bool → Bool}
    (h0B : ∀ k listed, lex 0 k listed = true → k = n → B listed) (h1B : ∀ f k listed, lex (f + 1) k listed = true → (Region.ready md ops listed).contains k = true ∧ Region.free md ops listed k = true ∧ lex f (k + 1) (listed.setIfInBounds k true) = true)
    (hsel : Region.noSelect ops = true) (hlt : ∀ i, i < n → ∀ listed, HeadInv md ops n listed → i ∈ Region.ready md ops listed → ∀ j ∈ Region.ready md ops listed, j < n)
    (hdone : ∀ listed, B listed → ∀ j ∈ Region.ready md ops listed, n ≤ j) :
    ∀ (l : List Oper) (k : Nat) (listed : Array Bool) (a : Act) (S : World → Prop), (∀ j, j < l.length → l[j]? = ops[k + j]?) → k + l.length = n → HeadInv md ops n listed →
    lex l.length k listed = true → wpMk P ops M w Lq l a S →
    wpAnyM P md ops M w n (fun listed' a' S' => B listed' ∧ Lq a' S') l.length listed a S
  | [], k, listed, a, S, _, hk, _, hB, h => by
    have : k = n := by simpa using hk
    exact ⟨h0B k listed (by simpa using hB) this, h⟩
  | o :: l, k, listed, a, S, hl, hk, inv, hB, h => by
    have h0 : ops[k]? = some o := by simpa using (hl 0 (by simp)).symm
    obtain ⟨hr, hf, hB'⟩ := h1B _ _ _ hB
    have hkn : k < n := by simp only [List.length_cons] at hk; omega
    have hr' : k ∈ Region.ready md ops listed := by simpa using hr
    exact wpAnyM_first h0 (Region.noSelect_spec hsel) (hlt k hkn) (fun listed' a' S' hL => hdone _ hL.1) l.length listed a S inv (Region.free_spec h0 hf) hr' h.1
      (fun v T hv => wpAnyM_lex h0B h1B hsel hlt hdone l (k + 1) _ _ _ (fun j hj => by have := hl (j + 1) (by simp; omega); simpa [Nat.add_assoc, Nat.add_comm 1 j] using this) (by simp only [List.length_cons] at hk; omega) (inv.set hr' hkn) hB' (h.2 v T hv))

/-- The head once, in the text's order; then the tail as it stands. -/
theorem wp_region_mk {id : Nat} {Q : Exit → Act → World → Prop} {a : Act} {l : List Oper} (n : Nat) (M : FuncId → Array Value → Value → World → Prop) (hm : P.follows .mixedOrders = true) (hB : Region.lexTailB .any l.toArray n = true)
    (h : wpMk P l.toArray M w (fun a' S => ∀ x, Up w x → S x → wpList P l.toArray Q (l.drop n) a' x) (l.take n) a (fun _ => True)) : (Code.region id l.toArray true).wp P Q a w := by
  simp only [Region.lexTailB, Bool.and_eq_true, decide_eq_true_eq] at hB
  obtain ⟨⟨⟨⟨hsel, hn⟩, hs⟩, hc⟩, hlex⟩ := hB
  have hn' : n < l.length := by simpa using hn
  have htl : (l.take n).length = n := by simp; omega
  have hdl : (l.drop n).length = l.toArray.size - n := by simp
  have inv0 : HeadInv .any l.toArray n (Array.replicate l.toArray.size false) :=
    ⟨by simp, fun j oj _ hl => (by rw [getD_replicate_false] at hl; cases hl), fun t _ ht => getD_in (by simpa using ht) (getD_replicate_false _ _)⟩
  have H := wpAnyM_lex (md := .any) (n := n) (B := fun listed => Region.seqB .any l.toArray (l.toArray.size - n) n listed = true) (lex := Region.lexHead .any l.toArray (l.toArray.size - n))
    (fun k listed h1 h2 => by subst h2; simpa [Region.lexHead] using h1) (fun f k listed h1 => by
      simp only [Region.lexHead, Bool.and_eq_true] at h1; exact ⟨h1.1.1, h1.1.2, h1.2⟩) hsel
    (fun i hin listed inv hr j hj => by
      rcases Nat.lt_or_ge j n with h | h
      · exact h
      · exact absurd hj (tail_waits hs hc hn inv _ i rfl hin (mem_ready.1 hr).1 j h))
    (fun listed h1 => seqB_ready h1) (l.take n) 0 _ a _ (fun j hj => by
    have hj' : j < n := by rw [htl] at hj; exact hj
    simp [hj']) (by simpa using htl) inv0 (by rw [htl]; exact hlex) h
  refine wp_region_any hm ?_
  have := wpAny_of_headM (Q' := Q) (g := l.toArray.size - n) (fun listed a' S x hx hS _ hL => by
    have := wpAny_of_seq (md := .any) (Q' := Q) (l.drop n) n listed a' x (fun j => by simp [List.getElem?_drop]) (by rw [hdl]; exact hL.1) (hL.2 x hx hS)
    rwa [hdl] at this) _ _ _ _ { w with drawn := w.drawn + 1 } (Up.refl w).drew trivial (fun _ _ _ _ => trivial) H
  rw [htl, show n + (l.toArray.size - n) = l.toArray.size by omega] at this
  exact this

/-- The whole region. -/
theorem wp_region_mk_all {id : Nat} {Q : Exit → Act → World → Prop} {a : Act} {l : List Oper} (M : FuncId → Array Value → Value → World → Prop) (hm : P.follows .mixedOrders = true) (hB : Region.lexB .any l.toArray = true)
    (h : wpMk P l.toArray M w (fun a' S => ∀ x, Up w x → S x → Q .normal a' x) l a (fun _ => True)) : (Code.region id l.toArray true).wp P Q a w := by
  simp only [Region.lexB, Bool.and_eq_true] at hB
  obtain ⟨hsel, hlex⟩ := hB
  have hsz : l.length = l.toArray.size := by simp
  have inv0 : HeadInv .any l.toArray l.length (Array.replicate l.toArray.size false) :=
    ⟨by simp, fun j oj _ hl => (by rw [getD_replicate_false] at hl; cases hl), fun t h1 ht => (by simp at ht; omega)⟩
  have H := wpAnyM_lex (md := .any) (n := l.length) (B := fun listed => Region.ready .any l.toArray listed = []) (lex := Region.lexFrom .any l.toArray)
    (fun k listed h1 h2 => by simpa [Region.lexFrom] using h1) (fun f k listed h1 => by
      simp only [Region.lexFrom, Bool.and_eq_true] at h1; exact ⟨h1.1.1, h1.1.2, h1.2⟩) hsel
    (fun i hin listed inv hr j hj => by
      obtain ⟨_, oj, hoj, _⟩ := mem_ready.1 hj
      have := (Array.getElem?_eq_some_iff.1 hoj).1
      simpa using this)
    (fun listed h1 j hj => by rw [h1] at hj; cases hj) l 0 _ a _ (fun j hj => by simp) (by simp) inv0 (by rw [hsz]; simpa using hlex) h
  refine wp_region_any hm ?_
  have := wpAny_of_headM (Q' := Q) (g := 0) (fun listed a' S x hx hS _ hL => ⟨hL.1, hL.2 x hx hS⟩) _ _ _ _ { w with drawn := w.drawn + 1 } (Up.refl w).drew trivial (fun _ _ _ _ => trivial) H
  rw [hsz, Nat.add_zero] at this
  exact this

/-! ### One operation at a time -/

/-- A continuation that asks less of the facts. -/
def AntiS (L : Act → (World → Prop) → Prop) : Prop := ∀ a S T, (∀ x, Up w x → T x → S x) → L a S → L a T
theorem wpMk_anti {L : Act → (World → Prop) → Prop} (hL : AntiS (w := w) L) : ∀ (l : List Oper) (a : Act) (S T : World → Prop), (∀ x, Up w x → T x → S x) → wpMk P ops M w L l a S → wpMk P ops M w L l a T
  | [], a, S, T, h, hh => hL a S T h hh
  | o :: l, a, S, T, h, hh => ⟨hh.1, fun v U hv => wpMk_anti hL l _ _ _ (fun x hx ⟨h1, h2⟩ => ⟨h x hx h1, h2⟩) (hh.2 v U hv)⟩
theorem anti_post {F : Act → World → Prop} : AntiS (w := w) (fun a' S => ∀ x, Up w x → S x → F a' x) := fun a S T h hh x hx hT => hh x hx (h x hx hT)

theorem wpMk_nil {L : Act → (World → Prop) → Prop} {a : Act} {S : World → Prop} (h : L a S) : wpMk P ops M w L [] a S := h

/-- Any operation that yields a value of which R is known. -/
theorem wpMk_any {L : Act → (World → Prop) → Prop} (hL : AntiS (w := w) L) {o : Oper} {rest : List Oper} {a : Act} {S : World → Prop} (R : Value → World → Prop) (hR : ∀ v x y, R v x → Up x y → R v y)
    (hw : Region.wanted o (yielded ops a.tmps) = true) (hrun : ∀ x, Up w x → ∃ v x', (execOp a.eval o).run P x = .ok (.value v) x' ∧ Up x x' ∧ R v x')
    (h : ∀ v, (∃ y, Up w y ∧ R v y) → wpMk P ops M w L rest (a.put o.dst v) (fun y => S y ∧ R v y)) : wpMk P ops M w L (o :: rest) a S := by
  have key : ∀ v y, SPM P M w o a v y → R v y := fun v y ⟨x, x', h1, h2, h3⟩ => by
    obtain ⟨v', x1, hr, hu, hv⟩ := hrun x h1
    rw [hr] at h2
    obtain ⟨rfl, rfl⟩ := h2
    exact hR _ _ _ hv h3
  refine ⟨fun _ x hx => ?_, fun v T hv => ?_⟩
  · obtain ⟨v', x1, hr, hu, _⟩ := hrun x hx
    rw [hr]; exact hu
  · unfold mRes at hv
    rw [if_pos hw] at hv
    obtain ⟨⟨y, hy, hs⟩, rfl⟩ := hv
    exact wpMk_anti hL _ _ _ _ (fun x _ ⟨h1, h2⟩ => ⟨h1, key _ _ h2⟩) (h v ⟨y, hy, key _ _ hs⟩)

/-- A call. -/
theorem wpMk_enter {L : Act → (World → Prop) → Prop} (hL : AntiS (w := w) L) {o : Oper} {rest : List Oper} {a : Act} {S : World → Prop} (f : FuncId) (args : Array Value) (hK : ∀ v x y, M f args v x → Up x y → M f args v y)
    (hw : Region.wanted o (yielded ops a.tmps) = true) (hrun : ∀ x, (execOp a.eval o).run P x = .ok (.enter f args) x)
    (hc : ∀ x, Up w x → Calls P f args x fun e x' => ∃ v, e = .returned v ∧ Up x x' ∧ M f args v x')
    (h : ∀ v, (∃ y, Up w y ∧ M f args v y) → wpMk P ops M w L rest (a.put o.dst v) (fun y => S y ∧ M f args v y)) : wpMk P ops M w L (o :: rest) a S := by
  have key : ∀ v y, SPM P M w o a v y → M f args v y := fun v y ⟨x, x', h1, h2, h3⟩ => by
    rw [hrun x] at h2
    exact hK _ _ _ h2.2 h3
  refine ⟨fun _ x hx => ?_, fun v T hv => ?_⟩
  · rw [hrun x]; exact ⟨Up.refl x, hc x hx⟩
  · unfold mRes at hv
    rw [if_pos hw] at hv
    obtain ⟨⟨y, hy, hs⟩, rfl⟩ := hv
    exact wpMk_anti hL _ _ _ _ (fun x _ ⟨h1, h2⟩ => ⟨h1, key _ _ h2⟩) (h v ⟨y, hy, key _ _ hs⟩)

/-- A new variable. -/
theorem wpMk_alloc {L : Act → (World → Prop) → Prop} (hL : AntiS (w := w) L) {o : Oper} {rest : List Oper} {a : Act} {S : World → Prop} (cs : Array Value) (t : TypeId)
    (hw : Region.wanted o (yielded ops a.tmps) = true) (hrun : ∀ x, (execOp a.eval o).run P x = .ok (.value (.pointer (some ⟨x.heap.size, 0, none⟩))) (x.alloc (.cells cs t (0, 0))))
    (h : ∀ b, w.heap.size ≤ b → wpMk P ops M w L rest (a.put o.dst (.pointer (some ⟨b, 0, none⟩))) (fun y => S y ∧ y.heap[b]? = some (.cells cs t (0, 0)))) : wpMk P ops M w L (o :: rest) a S := by
  refine wpMk_any hL (fun v y => ∃ b, v = .pointer (some ⟨b, 0, none⟩) ∧ w.heap.size ≤ b ∧ y.heap[b]? = some (.cells cs t (0, 0))) (fun v x y ⟨b, h1, h2, h3⟩ hu => ⟨b, h1, h2, by rw [hu.heap b (Array.getElem?_eq_some_iff.1 h3).1]; exact h3⟩) hw
    (fun x hx => ⟨_, _, hrun x, (Up.refl x).alloc _, x.heap.size, rfl, hx.size, heap_alloc_new x _⟩) (fun v ⟨y, _, b, h1, h2, _⟩ => ?_)
  subst h1
  refine wpMk_anti hL _ _ _ _ (fun x _ ⟨h3, b', h4, h5, h6⟩ => ?_) (h b h2)
  cases h4
  exact ⟨h3, h6⟩

/-- Operations that read, one at a time, by the tactics of the quiet walk. -/
def noEnter (o : Oper) : Bool := match o.op with
  | .move _ | .assign _ | .pick _ _ _ | .build _ _ | .load _ _ | .binOp _ _ _ _ _ | .unOp _ _ _ | .convert _ _ _ | .slice _ _ _ _ _ | .fieldAddr _ _ _ | .field _ _ _ | .indexAddr _ _ _ | .index _ _ _ | .extract _ _ => true
  | .call c => match c.callee with
    | .builtin .len => true
    | _ => false
  | _ => false
theorem noEnter_spec {o : Oper} (h : noEnter o = true) (e : Operand → Value) (x : World) (f : FuncId) (args : Array Value) (x1 : World) : (execOp e o).run P x ≠ .ok (.enter f args) x1 := by
  have key : ∀ s : Sem Value, (do pure (Next.value (← s)) : Sem Next).run P x ≠ .ok (.enter f args) x1 := fun s => by
    rw [Sem.run_bind]
    cases s.run P x with
    | ok v x2 => simp [Sem.run_pure]
    | halt _ _ => simp [Result.andThen]
  unfold noEnter at h
  unfold execOp
  split at h <;> rename_i ho <;> simp only [ho] <;> first | exact key _ | skip
  · simp [Sem.run_pure]
  · simp [Sem.run_pure]
  · rw [Sem.run_bind]
    generalize Sem.run P _ x = r
    cases r <;> simp [Result.andThen, Sem.run_pure]
  · split at h
    · rename_i hb
      simp only [resolve, hb, invoke, builtin, Sem.run_bind, Sem.run_pure, Result.andThen_ok]
      intro hc
      revert hc
      generalize Sem.run P _ x = r
      cases r <;> simp [Result.andThen]
    · cases h
  · cases h

theorem wpMk_quiet {L : Act → (World → Prop) → Prop} (hL : AntiS (w := w) L) {o : Oper} {rest : List Oper} {a : Act} {S : World → Prop} (hn : noEnter o = true)
    (h : wpQuiet P ops (fun x => ∃ i : Ext w, x = i.w) (fun a' => wpMk P ops M w L rest a' S) [o] a) : wpMk P ops M w L (o :: rest) a S := by
  unfold wpQuiet at h
  by_cases hw : Region.wanted o (yielded ops a.tmps) = true
  · rw [if_pos hw] at h
    obtain ⟨u, h1, h2⟩ := h
    have hrun : ∀ x, Up w x → (execOp a.eval o).run P x = .ok (.value u) x ∨ ((execOp a.eval o).run P x = .ok .skip x ∧ u = undef) := fun x hx => by
      have h3 := h1 x ⟨⟨x, hx⟩, rfl⟩
      unfold Oper.quietAt at h3
      have h4 := noEnter_spec (P := P) hn a.eval x
      generalize (execOp a.eval o).run P x = r at *
      cases r with
      | ok n x1 =>
        cases n with
        | value v => obtain ⟨rfl, rfl⟩ := h3; exact .inl rfl
        | skip => obtain ⟨rfl, rfl⟩ := h3; exact .inr ⟨rfl, rfl⟩
        | enter f args => exact absurd rfl (h4 f args x1)
        | _ => exact absurd h3 (by simp [Oper.quietUpon])
      | halt _ _ => exact absurd h3 (by simp [Oper.quietUpon])
    have key : ∀ v y, SPM P M w o a v y → v = u := fun v y ⟨x, x', g1, g2, g3⟩ => by
      rcases hrun x g1 with hr | ⟨hr, rfl⟩ <;> rw [hr] at g2
      · exact g2.1.symm
      · exact g2.1
    refine ⟨fun _ x hx => ?_, fun v T hv => ?_⟩
    · rcases hrun x hx with hr | ⟨hr, rfl⟩ <;> rw [hr] <;> exact Up.refl x
    · unfold mRes at hv
      rw [if_pos hw] at hv
      obtain ⟨⟨y, hy, hs⟩, rfl⟩ := hv
      obtain rfl := key _ _ hs
      exact wpMk_anti hL _ _ _ _ (fun x _ h3 => h3.1) h2
  · rw [if_neg hw] at h
    refine ⟨fun hw' => absurd hw' hw, fun v T hv => ?_⟩
    unfold mRes at hv
    rw [if_neg hw] at hv
    obtain ⟨rfl, rfl⟩ := hv
    exact wpMk_anti hL _ _ _ _ (fun x _ h3 => h3.1) h
end
end Go.Proofs.YtpccaifhcmcegaaGreat
end

section
namespace Go.Proofs.YtpccaifhcmcegaaGreat
open Go.ChangeShapes Go.WideShapes Go.ChangeAt Go.RowKit
set_option linter.unusedVariables false
set_option linter.unusedSimpArgs false

theorem own_up' {w w' : World} {base n k : Nat} {e : TypeId} {v : Value} {xs : List Value} (h : w.ownsRow base e k v n xs) (u : Up w w') : w'.ownsRow base e k v n xs := by
  refine ⟨h.1, ?_⟩
  rcases h.2 with h0 | ⟨g, cap, cur, hv, hb, hg, hr⟩
  · exact .inl h0
  · exact .inr ⟨g, cap, cur, hv, hb, (u.heap g (Array.getElem?_eq_some_iff.1 hg).1).trans hg, hr⟩
/-- A store into a block of another type leaves the row as it is. -/
theorem own_far {w : World} {base n k b : Nat} {e t : TypeId} {v : Value} {xs : List Value} {cs : Array Value} (h : w.ownsRow base e k v n xs) (hb : w.heap[b]? = some (.cells cs t (0, 0))) (hne : t ≠ e) (o : Nat) (u : Value) : (w.setCell ⟨b, o, none⟩ u).ownsRow base e k v n xs := by
  refine ⟨h.1, ?_⟩
  rcases h.2 with h0 | ⟨g, cap, cur, hv, hb', hg, hr⟩
  · exact .inl h0
  · refine .inr ⟨g, cap, cur, hv, hb', ?_, hr⟩
    have hgb : b ≠ g := fun e => by subst e; rw [hb] at hg; cases hg; exact hne rfl
    simp only [World.setCell, Array.getElem?_modify, hgb, if_false]
    exact hg
theorem set_heap {w : World} {b o : Nat} {cs : Array Value} {t : TypeId} (h : w.heap[b]? = some (.cells cs t (0, 0))) (u : Value) : (w.setCell ⟨b, o, none⟩ u).heap[b]? = some (.cells (cs.setIfInBounds o u) t (0, 0)) := by
  simp [World.setCell, Array.getElem?_modify, h]
theorem own_from {w : World} {base n k : Nat} {e : TypeId} {v : Value} {xs : List Value} (h : w.ownsRow base e k v n xs) (B : Nat) (hB : B ≤ base) : w.ownsRow B e k v n xs := by
  refine ⟨h.1, ?_⟩
  rcases h.2 with h0 | ⟨g, cap, cur, hv, hb, hr⟩
  · exact .inl h0
  · exact .inr ⟨g, cap, cur, hv, by omega, hr⟩

theorem wpMk_append {P : Program} {ops : Array Oper} {w : World} {M : FuncId → Array Value → Value → World → Prop} {L : Act → (World → Prop) → Prop} (hL : AntiS (w := w) L) {o : Oper} {rest : List Oper} {a : Act} {S : World → Prop} (s x : Operand) (t : TypeId)
    (ho : o.op = .call { callee := .builtin .append, args := #[s, x], argTypes := #[t, t] })
    (e : TypeId) (i : TypeInfo) (z : Value) (size bytes : Nat) (ht : P.underlying t = some (.slice e)) (hi : P.info? e = some i) (hz : i.zero = some z)
    (hsize : i.size = size) (hby : i.bytes = bytes) (hzs : z.cells.size = size) (hsz : 0 < size)
    (hs : a.eval s = .slice none 0 0) (xv : Value) (m : Nat) (f : Nat → Nat → Value) (hxv : a.eval x = xv) (hx : SlAt w xv m size f) (h1 : ∀ i j, i < m → j < size → (f i j).oneCell' = true)
    (h63 : m ≤ maxLen) (hbytes : m * bytes ≤ 140737488355328) (hw : Region.wanted o (yielded ops a.tmps) = true)
    (h : ∀ vb vd, (∃ y, Up w y ∧ y.ownsRow w.heap.size e size (.slice vb m vd) m (flat f m size)) → wpMk P ops M w L rest (a.put o.dst (.slice vb m vd)) (fun y => S y ∧ y.ownsRow w.heap.size e size (.slice vb m vd) m (flat f m size))) : wpMk P ops M w L (o :: rest) a S := by
  refine wpMk_any hL (fun v y => y.ownsRow w.heap.size e size v m (flat f m size)) (fun v x y h hu => own_up' h hu) hw (fun y hy => ?_) (fun v hv => ?_)
  · obtain ⟨v', w', hrun, h2, h3, h4, h5⟩ := run_append_sl (P := P) y y.heap.size t o.type e i z size bytes ht hi hz hsize hby hzs hsz (.slice none 0 0) 0 [] (World.ownsRow_nil _ _ _ _) xv m f (hx.up hy) h1 (by omega) (by rw [Nat.zero_add]; exact hbytes) (Nat.le_refl _)
    refine ⟨v', w', ?_, grown_up h3 (fun k hk => by cases hk), ?_⟩
    · unfold execOp
      simp only [ho, resolve, invoke, builtin, Sem.run_bind, Sem.run_pure, Result.andThen_ok, List.map_toArray, List.map_cons, List.map_nil, hs, hxv, hrun]
    · rw [Nat.zero_add, List.nil_append] at h2
      exact own_from h2 _ hy.size
  · obtain ⟨y, hy, hv⟩ := hv
    obtain ⟨vb, vd, rfl⟩ := own_slice hv
    exact h vb vd ⟨y, hy, hv⟩
end Go.Proofs.YtpccaifhcmcegaaGreat
end

section
namespace Go.Proofs.YtpccaifhcmcegaaGreat
open Go.ChangeShapes Go.WideShapes Go.ChangeAt Go.RowKit
set_option linter.unusedVariables false
set_option linter.unusedSimpArgs false
set_option maxRecDepth 100000

/-- A block of cells. -/
def BoxC (w : World) (g : Nat) (t : TypeId) (cs : Array Value) : Prop := w.heap[g]? = some (.cells cs t (0, 0))
theorem BoxC.lt {w : World} {g : Nat} {t : TypeId} {cs : Array Value} (h : BoxC w g t cs) : g < w.heap.size := (Array.getElem?_eq_some_iff.1 h).1
theorem BoxC.up {w w' : World} {g : Nat} {t : TypeId} {cs : Array Value} (h : BoxC w g t cs) (u : Up w w') : BoxC w' g t cs := (u.heap g h.lt).trans h
theorem BoxC.frozen {w : World} {g : Nat} {t : TypeId} {cs : Array Value} (h : BoxC w g t cs) (o : Nat) : w.frozen? ⟨g, o, none⟩ = false := frozen_of_row _ _ _ _ _ h
theorem BoxC.new (w : World) (t : TypeId) (cs : Array Value) : BoxC (w.alloc (.cells cs t)) w.heap.size t cs := heap_alloc_new w _
theorem BoxC.new2 (w : World) (o : Obj) (t : TypeId) (cs : Array Value) : BoxC ((w.alloc o).alloc (.cells cs t)) (w.heap.size + 1) t cs := by
  have := heap_alloc_new (w.alloc o) (.cells cs t (0, 0))
  rw [show (w.alloc o).heap.size = w.heap.size + 1 by simp] at this
  exact this
theorem BoxC.new3 (w : World) (o p : Obj) (t : TypeId) (cs : Array Value) : BoxC (((w.alloc o).alloc p).alloc (.cells cs t)) (w.heap.size + 2) t cs := by
  have := heap_alloc_new ((w.alloc o).alloc p) (.cells cs t (0, 0))
  rw [show ((w.alloc o).alloc p).heap.size = w.heap.size + 2 by simp] at this
  exact this
theorem BoxC.new4 (w : World) (o p q : Obj) (t : TypeId) (cs : Array Value) : BoxC ((((w.alloc o).alloc p).alloc q).alloc (.cells cs t)) (w.heap.size + 3) t cs := by
  have := heap_alloc_new (((w.alloc o).alloc p).alloc q) (.cells cs t (0, 0))
  rw [show (((w.alloc o).alloc p).alloc q).heap.size = w.heap.size + 3 by simp] at this
  exact this
theorem BoxC.two {w : World} {g : Nat} {t : TypeId} {a b : Value} (h : BoxC w g t #[a, b]) : w.cell? ⟨g, 0, none⟩ = some a ∧ w.cell? ⟨g, 1, none⟩ = some b := ⟨cell_of_row _ _ _ _ _ _ h, cell_of_row _ _ _ _ _ _ h⟩
theorem BoxC.five {w : World} {g : Nat} {t : TypeId} {a b c d e : Value} (h : BoxC w g t #[a, b, c, d, e]) : w.cell? ⟨g, 0, none⟩ = some a ∧ w.cell? ⟨g, 1, none⟩ = some b ∧ w.cell? ⟨g, 2, none⟩ = some c ∧ w.cell? ⟨g, 3, none⟩ = some d ∧ w.cell? ⟨g, 4, none⟩ = some e :=
  ⟨cell_of_row _ _ _ _ _ _ h, cell_of_row _ _ _ _ _ _ h, cell_of_row _ _ _ _ _ _ h, cell_of_row _ _ _ _ _ _ h, cell_of_row _ _ _ _ _ _ h⟩
theorem BoxC.put {w : World} {g : Nat} {t : TypeId} {a b : Value} (h : BoxC w g t #[a, b]) (c d : Value) : BoxC ((w.setCell ⟨g, 0, none⟩ c).setCell ⟨g, 1, none⟩ d) g t #[c, d] := set_heap (o := 1) (set_heap (o := 0) h c) d
theorem BoxC.seven {w : World} {g : Nat} {t : TypeId} {a b c d e f i : Value} (h : BoxC w g t #[a, b, c, d, e, f, i]) : w.cell? ⟨g, 0, none⟩ = some a ∧ w.cell? ⟨g, 1, none⟩ = some b ∧ w.cell? ⟨g, 2, none⟩ = some c ∧ w.cell? ⟨g, 3, none⟩ = some d ∧ w.cell? ⟨g, 4, none⟩ = some e ∧ w.cell? ⟨g, 5, none⟩ = some f ∧ w.cell? ⟨g, 6, none⟩ = some i :=
  ⟨cell_of_row _ _ _ _ _ _ h, cell_of_row _ _ _ _ _ _ h, cell_of_row _ _ _ _ _ _ h, cell_of_row _ _ _ _ _ _ h, cell_of_row _ _ _ _ _ _ h, cell_of_row _ _ _ _ _ _ h, cell_of_row _ _ _ _ _ _ h⟩
theorem BoxC.ne {w : World} {g b : Nat} {t : TypeId} {cs : Array Value} (h : BoxC w g t cs) (hb : b ≠ g) (o : Nat) (u : Value) : BoxC (w.setCell ⟨b, o, none⟩ u) g t cs := by
  have e : (w.setCell ⟨b, o, none⟩ u).heap[g]? = w.heap[g]? := by simp [World.setCell, Array.getElem?_modify, hb]
  exact e.trans h
theorem wp_gen {P : Program} {c : Code} {Q : Exit → Act → World → Prop} {a : Act} {w : World} {F : World → Prop} (hF : F w) (h : ∀ v, F v → c.wp P Q a v) : c.wp P Q a w := h w hF

end Go.Proofs.YtpccaifhcmcegaaGreat
end

section
namespace Go.Proofs.YtpccaifhcmcegaaGreat
open Go.ChangeShapes Go.WideShapes Go.ChangeAt Go.RowKit
set_option linter.unusedVariables false
set_option linter.unusedSimpArgs false

section
variable {P : Program} {ops : Array Oper} {md : Region.Mode} {w : World} {M : FuncId → Array Value → Value → World → Prop}

abbrev Facts := Nat → World → Prop
def upd (S : Facts) (k : Nat) (T : World → Prop) : Facts := fun j y => if j = k then S j y ∧ T y else S j y
theorem upd_old {S : Facts} {k j : Nat} {T : World → Prop} {y : World} (h : upd S k T j y) : S j y := by
  unfold upd at h
  split at h
  · exact h.1
  · exact h
theorem upd_new {S : Facts} {k : Nat} {T : World → Prop} {y : World} (h : upd S k T k y) : T y := by unfold upd at h; rw [if_pos rfl] at h; exact h.2
theorem upd_mk {S : Facts} {k j : Nat} {T : World → Prop} {y : World} (h : S j y) (hT : T y) : upd S k T j y := by
  unfold upd
  split
  · exact ⟨h, hT⟩
  · exact h
theorem upd_ne (S : Facts) {k j : Nat} (h : j ≠ k) (T : World → Prop) (y : World) : upd S k T j y = S j y := by unfold upd; rw [if_neg h]
theorem upd_comm (S : Facts) {i j : Nat} (h : i ≠ j) (T U : World → Prop) : upd (upd S i T) j U = upd (upd S j U) i T := by
  funext k y
  unfold upd
  by_cases h1 : k = j
  · subst h1
    have h2 : ¬ k = i := fun e => h e.symm
    simp only [h2, if_true, if_false]
  · simp only [h1, if_false]
/-- What an operation may lean on: the facts of those that it waits for. -/
def Deps (md : Region.Mode) (o : Oper) (S : Facts) (x : World) : Prop := ∀ e ∈ o.after, Region.binds md e = true → S e.on x
theorem Deps.upd_iff {o : Oper} {S : Facts} {k : Nat} {T : World → Prop} {x : World} (h : ∀ e ∈ o.after, Region.binds md e = true → e.on ≠ k) : Deps md o (upd S k T) x ↔ Deps md o S x := by
  unfold Deps
  exact ⟨fun H e he hb => upd_old (H e he hb), fun H e he hb => by rw [upd_ne _ (h e he hb)]; exact H e he hb⟩
def KeptF (S : Facts) : Prop := ∀ k, KeptS (S k)
theorem KeptF.upd {S : Facts} (h : KeptF S) (k : Nat) {T : World → Prop} (hT : KeptS T) : KeptF (upd S k T) := fun j x y hx hu => by
  unfold Proofs.YtpccaifhcmcegaaGreat.upd at *
  split
  · rename_i h1; rw [if_pos h1] at hx; exact ⟨h j _ _ hx.1 hu, hT _ _ hx.2 hu⟩
  · rename_i h1; rw [if_neg h1] at hx; exact h j _ _ hx hu
theorem KeptF.deps {S : Facts} (h : KeptF S) {o : Oper} : KeptS (Deps md o S) := fun x y hx hu e he hb => h _ _ _ (hx e he hb) hu

def GoodD (P : Program) (md : Region.Mode) (M : FuncId → Array Value → Value → World → Prop) (w : World) (o : Oper) (a : Act) (S : Facts) : Prop := ∀ x, Up w x → Deps md o S x → GoodR P M x ((execOp a.eval o).run P x)
def SPD (P : Program) (md : Region.Mode) (M : FuncId → Array Value → Value → World → Prop) (w : World) (o : Oper) (a : Act) (S : Facts) (v : Value) (y : World) : Prop := ∃ x x', Up w x ∧ Deps md o S x ∧ OutR M v x' ((execOp a.eval o).run P x) ∧ Up x' y ∧ Deps md o S y
def dGood (P : Program) (md : Region.Mode) (ops : Array Oper) (M : FuncId → Array Value → Value → World → Prop) (w : World) (o : Oper) (a : Act) (S : Facts) : Prop := Region.wanted o (yielded ops a.tmps) = true → GoodD P md M w o a S
def dT (P : Program) (md : Region.Mode) (ops : Array Oper) (M : FuncId → Array Value → Value → World → Prop) (w : World) (o : Oper) (a : Act) (S : Facts) (v : Value) (T : World → Prop) : Prop :=
  if Region.wanted o (yielded ops a.tmps) = true then T = SPD P md M w o a S v else v = undef ∧ T = Deps md o S
def dRes (P : Program) (md : Region.Mode) (ops : Array Oper) (M : FuncId → Array Value → Value → World → Prop) (w : World) (o : Oper) (a : Act) (S : Facts) (v : Value) (T : World → Prop) : Prop :=
  dT P md ops M w o a S v T ∧ ∃ y, Up w y ∧ (∀ k, S k y) ∧ T y
def dStep (P : Program) (md : Region.Mode) (ops : Array Oper) (M : FuncId → Array Value → Value → World → Prop) (w : World) (i : Nat) (o : Oper) (K : Act → Facts → Prop) (a : Act) (S : Facts) : Prop :=
  dGood P md ops M w o a S ∧ ∀ v T, dRes P md ops M w o a S v T → K (a.put o.dst v) (upd S i T)
def dOp (P : Program) (md : Region.Mode) (ops : Array Oper) (M : FuncId → Array Value → Value → World → Prop) (w : World) (i : Nat) (K : Act → Facts → Prop) (a : Act) (S : Facts) : Prop :=
  match ops[i]? with
  | none => K a S
  | some o => dStep P md ops M w i o K a S
/-- The walk in the text's order, from operation number k on. -/
def wpMd (P : Program) (md : Region.Mode) (ops : Array Oper) (M : FuncId → Array Value → Value → World → Prop) (w : World) (L : Act → Facts → Prop) : Nat → List Oper → Act → Facts → Prop
  | _, [], a, S => L a S
  | k, o :: rest, a, S => dStep P md ops M w k o (wpMd P md ops M w L (k + 1) rest) a S

/-- The facts in hand hold together in some world. -/
def Real (w : World) (S : Facts) : Prop := KeptF S ∧ ∃ y, Up w y ∧ ∀ k, S k y
theorem SPD.kept {o : Oper} {a : Act} {S : Facts} (h : KeptF S) {v : Value} : KeptS (SPD P md M w o a S v) := fun _ _ ⟨x, x', h1, h2, h3, h4, h5⟩ hu => ⟨x, x', h1, h2, h3, h4.trans hu, h.deps _ _ h5 hu⟩
theorem dT.kept {o : Oper} {a : Act} {S : Facts} (hk : KeptF S) {v : Value} {T : World → Prop} (h : dT P md ops M w o a S v T) : KeptS T := by
  unfold dT at h
  split at h
  · rw [h]; exact SPD.kept hk
  · rw [h.2]; exact hk.deps
theorem Real.upd {o : Oper} {a : Act} {S : Facts} {i : Nat} (hr : Real w S) {v : Value} {T : World → Prop} (h : dRes P md ops M w o a S v T) : Real w (upd S i T) := by
  obtain ⟨h1, y, h2, h3, h4⟩ := h
  exact ⟨hr.1.upd i (h1.kept hr.1), y, h2, fun k => upd_mk (h3 k) h4⟩
theorem dStep_mono {i : Nat} {o : Oper} {K K' : Act → Facts → Prop} {a : Act} {S : Facts} (hr : Real w S) (h : ∀ a S, Real w S → K a S → K' a S) (hh : dStep P md ops M w i o K a S) : dStep P md ops M w i o K' a S :=
  ⟨hh.1, fun v T hT => h _ _ (hr.upd hT) (hh.2 v T hT)⟩
theorem dOp_mono {i : Nat} {K K' : Act → Facts → Prop} {a : Act} {S : Facts} (hr : Real w S) (h : ∀ a S, Real w S → K a S → K' a S) (hh : dOp P md ops M w i K a S) : dOp P md ops M w i K' a S := by
  unfold dOp at *
  split
  · rename_i ho; simp only [ho] at hh; exact h _ _ hr hh
  · rename_i o ho; simp only [ho] at hh; exact dStep_mono hr h hh
theorem dGood.some {o : Oper} {a : Act} {S : Facts} (hr : Real w S) (h : dGood P md ops M w o a S) : ∃ v T, dRes P md ops M w o a S v T := by
  obtain ⟨hk, y, hy, hS⟩ := hr
  have hd : Deps md o S y := fun e _ _ => hS e.on
  unfold dRes dT
  by_cases hw : Region.wanted o (yielded ops a.tmps) = true
  · have h0 := h hw y hy hd
    have key : ∀ r : Result Next, GoodR P M y r → ∃ v x', Up y x' ∧ OutR M v x' r := fun r hr => by
      cases r with
      | ok n x1 =>
        cases n with
        | value u => exact ⟨u, x1, hr, rfl, rfl⟩
        | skip => exact ⟨undef, x1, hr, rfl, rfl⟩
        | enter f args =>
          obtain ⟨hu, hc⟩ := hr
          obtain ⟨e, w', fr, ⟨v, _, h2, h3⟩, _⟩ := hc []
          exact ⟨v, w', hu.trans h2, h2, h3⟩
        | _ => exact absurd hr (by simp [GoodR])
      | halt _ _ => exact absurd hr (by simp [GoodR])
    obtain ⟨v, x', h1, h2⟩ := key _ h0
    exact ⟨v, SPD P md M w o a S v, by rw [if_pos hw], x', hy.trans h1, fun k => hk k _ _ (hS k) h1, y, x', hy, hd, h2, Up.refl _, hk.deps _ _ hd h1⟩
  · exact ⟨undef, Deps md o S, by rw [if_neg hw]; exact ⟨rfl, rfl⟩, y, hy, hS, hd⟩

theorem dGood_put {o : Oper} {a : Act} {S : Facts} (hs : ∀ cs b, o.op ≠ .select cs b) (dst : Option Tmp) (u : Value) (h : ∀ d, dst = some d → d ∉ o.looksAt ops) {k : Nat} {T : World → Prop} (hn : ∀ e ∈ o.after, Region.binds md e = true → e.on ≠ k) : dGood P md ops M w o (a.put dst u) (upd S k T) ↔ dGood P md ops M w o a S := by
  unfold dGood GoodD
  rw [execOp_put o hs a dst u h, wanted_put o a dst u h]
  simp only [Deps.upd_iff hn]
theorem dT_put {o : Oper} {a : Act} {S : Facts} (hs : ∀ cs b, o.op ≠ .select cs b) (dst : Option Tmp) (u : Value) (h : ∀ d, dst = some d → d ∉ o.looksAt ops) {k : Nat} {T : World → Prop} (hn : ∀ e ∈ o.after, Region.binds md e = true → e.on ≠ k) (v : Value) (U : World → Prop) : dT P md ops M w o (a.put dst u) (upd S k T) v U ↔ dT P md ops M w o a S v U := by
  have e1 : Deps md o (upd S k T) = Deps md o S := funext fun x => propext (Deps.upd_iff hn)
  unfold dT
  have e2 : SPD P md M w o (a.put dst u) (upd S k T) v = SPD P md M w o a S v := by
    funext y
    unfold SPD
    rw [execOp_put o hs a dst u h, e1]
  rw [wanted_put o a dst u h, e1, e2]

theorem dOp_put {i j : Nat} {oi oj : Oper} (hij : i ≠ j) (hj : ops[j]? = some oj) (hap : oi.apart ops oj = true)
    (hni : ∀ e ∈ oi.after, Region.binds md e = true → e.on ≠ j) (hnj : ∀ e ∈ oj.after, Region.binds md e = true → e.on ≠ i)
    (hsi : ∀ cs b, oi.op ≠ .select cs b) (hsj : ∀ cs b, oj.op ≠ .select cs b) {K : Act → Facts → Prop} {a : Act} {S : Facts} (hr : Real w S)
    (hy : dGood P md ops M w oi a S) (h : ∀ v T, dRes P md ops M w oi a S v T → dOp P md ops M w j K (a.put oi.dst v) (upd S i T)) :
    dOp P md ops M w j (fun a' S' => dGood P md ops M w oi a' S' ∧ ∀ v T, dRes P md ops M w oi a' S' v T → K (a'.put oi.dst v) (upd S' i T)) a S := by
  obtain ⟨h1, h2, h3⟩ := Oper.apart_spec hap
  unfold dOp at *
  simp only [hj] at *
  obtain ⟨v0, T0, hr0⟩ := hy.some hr
  refine And.intro ((dGood_put hsj oi.dst v0 h1 hnj).1 (h v0 T0 hr0).1) (fun u U hu => And.intro ((dGood_put hsi oj.dst u h3 hni).2 hy) (fun v T hv => ?_))
  obtain ⟨hv1, y, hy1, hy2, hy3⟩ := hv
  have hSy : ∀ k, S k y := fun k => upd_old (hy2 k)
  have hU : U y := upd_new (hy2 j)
  have hr1 : dRes P md ops M w oi a S v T := ⟨(dT_put hsi oj.dst u h3 hni v T).1 hv1, y, hy1, hSy, hy3⟩
  have hr2 : dRes P md ops M w oj (a.put oi.dst v) (upd S i T) u U := ⟨(dT_put hsj oi.dst v h1 hnj u U).2 hu.1, y, hy1, fun k => upd_mk (hSy k) hy3, hU⟩
  have := (h v T hr1).2 u U hr2
  rw [Act.put_comm a v u h2, upd_comm S hij T U] at this
  exact this

def wpAnyD (P : Program) (md : Region.Mode) (ops : Array Oper) (M : FuncId → Array Value → Value → World → Prop) (w : World) (n : Nat) (L : Array Bool → Act → Facts → Prop) : Nat → Array Bool → Act → Facts → Prop
  | 0, listed, a, S => L listed a S
  | f + 1, listed, a, S =>
    Region.ready md ops listed ≠ [] ∧ ∀ i ∈ Region.ready md ops listed, i < n ∧ dOp P md ops M w i (wpAnyD P md ops M w n L f (listed.setIfInBounds i true)) a S

theorem wpOp_of_dOp {i : Nat} {a : Act} {S : Facts} {K : Act → Facts → Prop} {K' : Act → World → Prop} {Q' : Exit → Act → World → Prop} {x : World} (hx : Up w x) (hS : ∀ k, S k x) (hk : KeptF S)
    (h : ∀ a S x', Up w x' → (∀ k, S k x') → KeptF S → K a S → K' a x') (hh : dOp P md ops M w i K a S) : wpOp P ops Q' i K' a x := by
  unfold dOp at hh
  unfold wpOp
  have hrl : Real w S := ⟨hk, x, hx, hS⟩
  split
  · rename_i ho; simp only [ho] at hh; exact h _ _ _ hx hS hk hh
  · rename_i o ho
    simp only [ho] at hh
    obtain ⟨hg, hn⟩ := hh
    have hd : Deps md o S x := fun e _ _ => hS e.on
    split
    · rename_i hw
      refine .inl ?_
      have hgx := hg hw x hx hd
      have hn' : ∀ v x', Up x x' → OutR M v x' ((execOp a.eval o).run P x) → K' (a.put o.dst v) x' := fun v x' hu ho => by
        have hsp : SPD P md M w o a S v x' := ⟨x, x', hx, hd, ho, Up.refl _, hk.deps _ _ hd hu⟩
        have hSx : ∀ k, S k x' := fun k => hk k _ _ (hS k) hu
        have hr : dRes P md ops M w o a S v (SPD P md M w o a S v) := by
          refine ⟨?_, x', hx.trans hu, hSx, hsp⟩
          unfold dT; rw [if_pos hw]
        exact h _ _ _ (hx.trans hu) (fun k => upd_mk (hSx k) hsp) (hk.upd i (SPD.kept hk)) (hn v _ hr)
      unfold Oper.wp
      generalize (execOp a.eval o).run P x = r at *
      cases r with
      | ok n x1 =>
        cases n with
        | value u => exact hn' u x1 hgx ⟨rfl, rfl⟩
        | skip => exact hn' undef x1 hgx ⟨rfl, rfl⟩
        | enter f args =>
          obtain ⟨hu, hc⟩ := hgx
          rw [Oper.upon_enter]
          refine hc.mono fun e x' ⟨v, he, h2, h3⟩ => ?_
          subst he
          exact hn' v x' (hu.trans h2) ⟨h2, h3⟩
        | _ => exact absurd hgx (by simp [GoodR])
      | halt _ _ => exact absurd hgx (by simp [GoodR])
    · rename_i hw
      have hr : dRes P md ops M w o a S undef (Deps md o S) := by
        refine ⟨?_, x, hx, hS, hd⟩
        unfold dT; rw [if_neg hw]; exact ⟨rfl, rfl⟩
      exact h _ _ _ hx (fun k => upd_mk (hS k) hd) (hk.upd i hk.deps) (hn _ _ hr)

theorem wpAny_of_headD {n g : Nat} {L : Array Bool → Act → Facts → Prop} {Q' : Exit → Act → World → Prop} (hL : ∀ listed a S x, Up w x → (∀ k, S k x) → L listed a S → wpAny P md ops Q' g listed a x) :
    ∀ (f : Nat) (listed : Array Bool) (a : Act) (S : Facts) (x : World), Up w x → (∀ k, S k x) → KeptF S → wpAnyD P md ops M w n L f listed a S → wpAny P md ops Q' (f + g) listed a x
  | 0, listed, a, S, x, hx, hS, hk, h => by rw [Nat.zero_add]; exact hL _ _ _ _ hx hS h
  | f + 1, listed, a, S, x, hx, hS, hk, h => by
    rw [show f + 1 + g = (f + g) + 1 by omega]
    exact ⟨fun h0 => absurd h0 h.1, fun i hi => wpOp_of_dOp hx hS hk (fun a' S' x' h1 h2 h3 h' => wpAny_of_headD hL f _ a' S' x' h1 h2 h3 h') (h.2 i hi).2⟩

theorem wpAnyD_first {n i : Nat} {oi : Oper} {L : Array Bool → Act → Facts → Prop} (hi : ops[i]? = some oi) (hsel : ∀ (j : Nat) (o : Oper) cs b, ops[j]? = some o → o.op ≠ .select cs b)
    (hlt : ∀ listed, HeadInv md ops n listed → i ∈ Region.ready md ops listed → ∀ j ∈ Region.ready md ops listed, j < n)
    (hdone : ∀ listed a S, L listed a S → ∀ j ∈ Region.ready md ops listed, n ≤ j) :
    ∀ (f : Nat) (listed : Array Bool) (a : Act) (S : Facts), Real w S → HeadInv md ops n listed →
      (∀ j oj, ops[j]? = some oj → j ≠ i → listed.getD j true = false → (∀ e ∈ oj.after, Region.binds md e = true → e.on ≠ i) → oi.apart ops oj = true) →
      i ∈ Region.ready md ops listed → dGood P md ops M w oi a S →
      (∀ v T, dRes P md ops M w oi a S v T → wpAnyD P md ops M w n L f (listed.setIfInBounds i true) (a.put oi.dst v) (upd S i T)) → wpAnyD P md ops M w n L (f + 1) listed a S := by
  intro f
  induction f with
  | zero =>
    intro listed a S hrl inv _ hr hy H
    have hun := (mem_ready.1 hr).1
    refine ⟨fun h => (by rw [h] at hr; cases hr), fun j hj => ?_⟩
    have hjn : j < n := hlt listed inv hr j hj
    refine ⟨hjn, ?_⟩
    by_cases hji : j = i
    · subst hji; unfold dOp; simp only [hi]; exact ⟨hy, H⟩
    · obtain ⟨v0, T0, hr0⟩ := hy.some hrl
      have := hdone _ _ _ (H v0 T0 hr0) j (ready_mono hj hji)
      omega
  | succ f ih =>
    intro listed a S hrl inv hfree hr hy H
    obtain ⟨hun, oi', hoi', halli⟩ := mem_ready.1 hr
    obtain rfl : oi' = oi := Option.some.inj (hoi'.symm.trans hi)
    refine ⟨fun h => (by rw [h] at hr; cases hr), fun j hj => ?_⟩
    have hjn : j < n := hlt listed inv hr j hj
    refine ⟨hjn, ?_⟩
    by_cases hji : j = i
    · subst hji; unfold dOp; simp only [hi]; exact ⟨hy, H⟩
    · obtain ⟨hjun, oj, hoj, hall⟩ := mem_ready.1 hj
      have hnot : ∀ e ∈ oj.after, Region.binds md e = true → e.on ≠ i := fun e he hb heq => by
        have h1 := hall e he hb
        rw [heq, getD_both hun] at h1
        cases h1
      have hnoti : ∀ e ∈ oi'.after, Region.binds md e = true → e.on ≠ j := fun e he hb heq => by
        have h1 := halli e he hb
        rw [heq, getD_both hjun] at h1
        cases h1
      have h2 := dOp_put (K := wpAnyD P md ops M w n L f ((listed.setIfInBounds i true).setIfInBounds j true)) (Ne.symm hji) hoj (hfree j oj hoj hji hjun hnot) hnoti hnot (fun cs b => hsel i oi' cs b hi) (fun cs b => hsel j oj cs b hoj) hrl hy
        (fun v T hv => ((H v T hv).2 j (ready_mono hj hji)).2)
      have hfree' : ∀ k ok, ops[k]? = some ok → k ≠ i → (listed.setIfInBounds j true).getD k true = false →
          (∀ e ∈ ok.after, Region.binds md e = true → e.on ≠ i) → oi'.apart ops ok = true := fun k ok hk hki hun hno => by
        refine hfree k ok hk hki ?_ hno
        by_cases hjk : j = k
        · subst hjk; exact hjun
        · rw [getD_set_ne true hjk] at hun; exact hun
      refine dOp_mono hrl (fun a' S' hrl' h3 => ih (listed.setIfInBounds j true) a' S' hrl' (inv.set hj hjn) hfree' (ready_mono hr (Ne.symm hji)) h3.1 ?_) h2
      rw [Array.setIfInBounds_comm _ _ hji]
      exact h3.2

theorem wpAnyD_lex {n : Nat} {Lq : Act → Facts → Prop} {B : Array Bool → Prop} {lex : Nat → Nat → Array Bool → Bool}
    (h0B : ∀ k listed, lex 0 k listed = true → k = n → B listed) (h1B : ∀ f k listed, lex (f + 1) k listed = true → (Region.ready md ops listed).contains k = true ∧ Region.free md ops listed k = true ∧ lex f (k + 1) (listed.setIfInBounds k true) = true)
    (hsel : Region.noSelect ops = true) (hlt : ∀ i, i < n → ∀ listed, HeadInv md ops n listed → i ∈ Region.ready md ops listed → ∀ j ∈ Region.ready md ops listed, j < n)
    (hdone : ∀ listed, B listed → ∀ j ∈ Region.ready md ops listed, n ≤ j) :
    ∀ (l : List Oper) (k : Nat) (listed : Array Bool) (a : Act) (S : Facts), Real w S → (∀ j, j < l.length → l[j]? = ops[k + j]?) → k + l.length = n → HeadInv md ops n listed →
    lex l.length k listed = true → wpMd P md ops M w Lq k l a S →
    wpAnyD P md ops M w n (fun listed' a' S' => B listed' ∧ Lq a' S') l.length listed a S
  | [], k, listed, a, S, _, _, hk, _, hB, h => by
    have : k = n := by simpa using hk
    exact ⟨h0B k listed (by simpa using hB) this, h⟩
  | o :: l, k, listed, a, S, hrl, hl, hk, inv, hB, h => by
    have h0 : ops[k]? = some o := by simpa using (hl 0 (by simp)).symm
    obtain ⟨hr, hf, hB'⟩ := h1B _ _ _ hB
    have hkn : k < n := by simp only [List.length_cons] at hk; omega
    have hr' : k ∈ Region.ready md ops listed := by simpa using hr
    exact wpAnyD_first h0 (Region.noSelect_spec hsel) (hlt k hkn) (fun listed' a' S' hL => hdone _ hL.1) l.length listed a S hrl inv (Region.free_spec h0 hf) hr' h.1
      (fun v T hv => wpAnyD_lex h0B h1B hsel hlt hdone l (k + 1) _ _ _ (hrl.upd hv) (fun j hj => by have := hl (j + 1) (by simp; omega); simpa [Nat.add_assoc, Nat.add_comm 1 j] using this) (by simp only [List.length_cons] at hk; omega) (inv.set hr' hkn) hB' (h.2 v T hv))

theorem real0 : Real w (fun _ _ => True) := ⟨fun _ _ _ _ _ => trivial, w, Up.refl w, fun _ => trivial⟩

/-- The head once, in the text's order; then the tail as it stands. -/
theorem wp_region_md {id : Nat} {Q : Exit → Act → World → Prop} {a : Act} {l : List Oper} (n : Nat) (M : FuncId → Array Value → Value → World → Prop) (hm : P.follows .mixedOrders = true) (hB : Region.lexTailB .any l.toArray n = true)
    (h : wpMd P .any l.toArray M w (fun a' S => ∀ x, Up w x → (∀ k, S k x) → wpList P l.toArray Q (l.drop n) a' x) 0 (l.take n) a (fun _ _ => True)) : (Code.region id l.toArray true).wp P Q a w := by
  simp only [Region.lexTailB, Bool.and_eq_true, decide_eq_true_eq] at hB
  obtain ⟨⟨⟨⟨hsel, hn⟩, hs⟩, hc⟩, hlex⟩ := hB
  have hn' : n < l.length := by simpa using hn
  have htl : (l.take n).length = n := by simp; omega
  have hdl : (l.drop n).length = l.toArray.size - n := by simp
  have inv0 : HeadInv .any l.toArray n (Array.replicate l.toArray.size false) :=
    ⟨by simp, fun j oj _ hl => (by rw [getD_replicate_false] at hl; cases hl), fun t _ ht => getD_in (by simpa using ht) (getD_replicate_false _ _)⟩
  have H := wpAnyD_lex (md := .any) (n := n) (B := fun listed => Region.seqB .any l.toArray (l.toArray.size - n) n listed = true) (lex := Region.lexHead .any l.toArray (l.toArray.size - n))
    (fun k listed h1 h2 => by subst h2; simpa [Region.lexHead] using h1) (fun f k listed h1 => by
      simp only [Region.lexHead, Bool.and_eq_true] at h1; exact ⟨h1.1.1, h1.1.2, h1.2⟩) hsel
    (fun i hin listed inv hr j hj => by
      rcases Nat.lt_or_ge j n with h | h
      · exact h
      · exact absurd hj (tail_waits hs hc hn inv _ i rfl hin (mem_ready.1 hr).1 j h))
    (fun listed h1 => seqB_ready h1) (l.take n) 0 _ a _ real0 (fun j hj => by
    have hj' : j < n := by rw [htl] at hj; exact hj
    simp [hj']) (by simpa using htl) inv0 (by rw [htl]; exact hlex) h
  refine wp_region_any hm ?_
  have := wpAny_of_headD (Q' := Q) (g := l.toArray.size - n) (fun listed a' S x hx hS hL => by
    have := wpAny_of_seq (md := .any) (Q' := Q) (l.drop n) n listed a' x (fun j => by simp [List.getElem?_drop]) (by rw [hdl]; exact hL.1) (hL.2 x hx hS)
    rwa [hdl] at this) _ _ _ _ { w with drawn := w.drawn + 1 } (Up.refl w).drew (fun _ => trivial) (real0 (w := w)).1 H
  rw [htl, show n + (l.toArray.size - n) = l.toArray.size by omega] at this
  exact this

/-- The whole region. -/
theorem wp_region_md_all {id : Nat} {Q : Exit → Act → World → Prop} {a : Act} {l : List Oper} (M : FuncId → Array Value → Value → World → Prop) (hm : P.follows .mixedOrders = true) (hB : Region.lexB .any l.toArray = true)
    (h : wpMd P .any l.toArray M w (fun a' S => ∀ x, Up w x → (∀ k, S k x) → Q .normal a' x) 0 l a (fun _ _ => True)) : (Code.region id l.toArray true).wp P Q a w := by
  simp only [Region.lexB, Bool.and_eq_true] at hB
  obtain ⟨hsel, hlex⟩ := hB
  have hsz : l.length = l.toArray.size := by simp
  have inv0 : HeadInv .any l.toArray l.length (Array.replicate l.toArray.size false) :=
    ⟨by simp, fun j oj _ hl => (by rw [getD_replicate_false] at hl; cases hl), fun t h1 ht => (by simp at ht; omega)⟩
  have H := wpAnyD_lex (md := .any) (n := l.length) (B := fun listed => Region.ready .any l.toArray listed = []) (lex := Region.lexFrom .any l.toArray)
    (fun k listed h1 h2 => by simpa [Region.lexFrom] using h1) (fun f k listed h1 => by
      simp only [Region.lexFrom, Bool.and_eq_true] at h1; exact ⟨h1.1.1, h1.1.2, h1.2⟩) hsel
    (fun i hin listed inv hr j hj => by
      obtain ⟨_, oj, hoj, _⟩ := mem_ready.1 hj
      have := (Array.getElem?_eq_some_iff.1 hoj).1
      simpa using this)
    (fun listed h1 j hj => by rw [h1] at hj; cases hj) l 0 _ a _ real0 (fun j hj => by simp) (by simp) inv0 (by rw [hsz]; simpa using hlex) h
  refine wp_region_any hm ?_
  have := wpAny_of_headD (Q' := Q) (g := 0) (fun listed a' S x hx hS hL => ⟨hL.1, hL.2 x hx hS⟩) _ _ _ _ { w with drawn := w.drawn + 1 } (Up.refl w).drew (fun _ => trivial) (real0 (w := w)).1 H
  rw [hsz, Nat.add_zero] at this
  exact this

/-! ### One operation at a time -/

def AntiF (w : World) (L : Act → Facts → Prop) : Prop := ∀ a S T, (∀ x, Up w x → (∀ k, T k x) → ∀ k, S k x) → L a S → L a T
theorem antiF_post {F : Act → World → Prop} : AntiF w (fun a' S => ∀ x, Up w x → (∀ k, S k x) → F a' x) := fun a S T h hh x hx hT => hh x hx (h x hx hT)

/-- Facts that say more. -/
def More (S T : Facts) : Prop := ∀ k x, T k x → S k x
theorem More.deps {S T : Facts} (h : More S T) {o : Oper} {x : World} (hd : Deps md o T x) : Deps md o S x := fun e he hb => h _ _ (hd e he hb)
theorem More.upd {S T : Facts} (h : More S T) (i : Nat) {U V : World → Prop} (hUV : ∀ x, V x → U x) : More (upd S i U) (upd T i V) := fun k x hx => by
  unfold Proofs.YtpccaifhcmcegaaGreat.upd at *
  split
  · rename_i h1; rw [if_pos h1] at hx; exact ⟨h _ _ hx.1, hUV _ hx.2⟩
  · rename_i h1; rw [if_neg h1] at hx; exact h _ _ hx
theorem wpMd_more {L : Act → Facts → Prop} (hL : AntiF w L) : ∀ (l : List Oper) (k : Nat) (a : Act) (S T : Facts), More S T → wpMd P md ops M w L k l a S → wpMd P md ops M w L k l a T
  | [], k, a, S, T, h, hh => hL a S T (fun x _ hT j => h j x (hT j)) hh
  | o :: l, k, a, S, T, h, hh => by
    refine ⟨fun hw x hx hd => hh.1 hw x hx (h.deps hd), fun v V hv => ?_⟩
    obtain ⟨h1, y, h2, h3, h4⟩ := hv
    by_cases hw : Region.wanted o (yielded ops a.tmps) = true
    · unfold dT at h1
      rw [if_pos hw] at h1
      subst h1
      have hsp : ∀ x, SPD P md M w o a T v x → SPD P md M w o a S v x := fun x ⟨z, z', g1, g2, g3, g4, g5⟩ => ⟨z, z', g1, h.deps g2, g3, g4, h.deps g5⟩
      have hr : dRes P md ops M w o a S v (SPD P md M w o a S v) := by
        refine ⟨?_, y, h2, fun j => h j y (h3 j), hsp _ h4⟩
        unfold dT; rw [if_pos hw]
      exact wpMd_more hL l (k + 1) _ _ _ (h.upd k hsp) (hh.2 v _ hr)
    · unfold dT at h1
      rw [if_neg hw] at h1
      obtain ⟨rfl, rfl⟩ := h1
      have hr : dRes P md ops M w o a S undef (Deps md o S) := by
        refine ⟨?_, y, h2, fun j => h j y (h3 j), h.deps h4⟩
        unfold dT; rw [if_neg hw]; exact ⟨rfl, rfl⟩
      exact wpMd_more hL l (k + 1) _ _ _ (h.upd k fun x hx => h.deps hx) (hh.2 _ _ hr)

theorem wpMd_nil {L : Act → Facts → Prop} {k : Nat} {a : Act} {S : Facts} (h : L a S) : wpMd P md ops M w L k [] a S := h

/-- Any operation that yields a value of which R is known. -/
theorem wpMd_any {L : Act → Facts → Prop} (hL : AntiF w L) {k : Nat} {o : Oper} {rest : List Oper} {a : Act} {S : Facts} (R : Value → World → Prop) (hR : ∀ v x y, R v x → Up x y → R v y)
    (hw : Region.wanted o (yielded ops a.tmps) = true) (hrun : ∀ x, Up w x → Deps md o S x → ∃ v x', (execOp a.eval o).run P x = .ok (.value v) x' ∧ Up x x' ∧ R v x')
    (h : ∀ v, (∃ y, Up w y ∧ R v y) → wpMd P md ops M w L (k + 1) rest (a.put o.dst v) (upd S k (fun y => R v y ∧ Deps md o S y))) : wpMd P md ops M w L k (o :: rest) a S := by
  have key : ∀ v y, SPD P md M w o a S v y → R v y ∧ Deps md o S y := fun v y ⟨x, x', h1, h2, h3, h4, h5⟩ => by
    obtain ⟨v', x1, hr, hu, hv⟩ := hrun x h1 h2
    rw [hr] at h3
    obtain ⟨rfl, rfl⟩ := h3
    exact ⟨hR _ _ _ hv h4, h5⟩
  refine ⟨fun _ x hx hd => ?_, fun v T hv => ?_⟩
  · obtain ⟨v', x1, hr, hu, _⟩ := hrun x hx hd
    rw [hr]; exact hu
  · obtain ⟨h1, y, h2, h3, h4⟩ := hv
    unfold dT at h1
    rw [if_pos hw] at h1
    subst h1
    exact wpMd_more hL _ _ _ _ _ (More.upd (fun _ _ h => h) k (fun x hx => key _ _ hx)) (h v ⟨y, h2, (key _ _ h4).1⟩)

/-- A call. -/
theorem wpMd_enter {L : Act → Facts → Prop} (hL : AntiF w L) {k : Nat} {o : Oper} {rest : List Oper} {a : Act} {S : Facts} (f : FuncId) (args : Array Value) (hK : ∀ v x y, M f args v x → Up x y → M f args v y)
    (hw : Region.wanted o (yielded ops a.tmps) = true) (hrun : ∀ x, (execOp a.eval o).run P x = .ok (.enter f args) x)
    (hc : ∀ x, Up w x → Deps md o S x → Calls P f args x fun e x' => ∃ v, e = .returned v ∧ Up x x' ∧ M f args v x')
    (h : ∀ v, (∃ y, Up w y ∧ M f args v y) → wpMd P md ops M w L (k + 1) rest (a.put o.dst v) (upd S k (fun y => M f args v y ∧ Deps md o S y))) : wpMd P md ops M w L k (o :: rest) a S := by
  have key : ∀ v y, SPD P md M w o a S v y → M f args v y ∧ Deps md o S y := fun v y ⟨x, x', h1, h2, h3, h4, h5⟩ => by
    rw [hrun x] at h3
    exact ⟨hK _ _ _ h3.2 h4, h5⟩
  refine ⟨fun _ x hx hd => ?_, fun v T hv => ?_⟩
  · rw [hrun x]; exact ⟨Up.refl x, hc x hx hd⟩
  · obtain ⟨h1, y, h2, h3, h4⟩ := hv
    unfold dT at h1
    rw [if_pos hw] at h1
    subst h1
    exact wpMd_more hL _ _ _ _ _ (More.upd (fun _ _ h => h) k (fun x hx => key _ _ hx)) (h v ⟨y, h2, (key _ _ h4).1⟩)

/-- A new variable. -/
theorem wpMd_alloc {L : Act → Facts → Prop} (hL : AntiF w L) {k : Nat} {o : Oper} {rest : List Oper} {a : Act} {S : Facts} (cs : Array Value) (t : TypeId)
    (hw : Region.wanted o (yielded ops a.tmps) = true) (hrun : ∀ x, (execOp a.eval o).run P x = .ok (.value (.pointer (some ⟨x.heap.size, 0, none⟩))) (x.alloc (.cells cs t (0, 0))))
    (h : ∀ b, w.heap.size ≤ b → wpMd P md ops M w L (k + 1) rest (a.put o.dst (.pointer (some ⟨b, 0, none⟩))) (upd S k (fun y => y.heap[b]? = some (.cells cs t (0, 0))))) : wpMd P md ops M w L k (o :: rest) a S := by
  refine wpMd_any hL (fun v y => ∃ b, v = .pointer (some ⟨b, 0, none⟩) ∧ w.heap.size ≤ b ∧ y.heap[b]? = some (.cells cs t (0, 0))) (fun v x y ⟨b, h1, h2, h3⟩ hu => ⟨b, h1, h2, by rw [hu.heap b (Array.getElem?_eq_some_iff.1 h3).1]; exact h3⟩) hw
    (fun x hx _ => ⟨_, _, hrun x, (Up.refl x).alloc _, x.heap.size, rfl, hx.size, heap_alloc_new x _⟩) (fun v ⟨y, _, b, h1, h2, _⟩ => ?_)
  subst h1
  refine wpMd_more hL _ _ _ _ _ (More.upd (fun _ _ h => h) k (fun x ⟨⟨b', h4, h5, h6⟩, _⟩ => ?_)) (h b h2)
  cases h4
  exact h6

/-- An operation that reads, by the tactics of the quiet walk: what it waits for is known behind it too. -/
theorem wpMd_quiet {L : Act → Facts → Prop} (hL : AntiF w L) {k : Nat} {o : Oper} {rest : List Oper} {a : Act} {S : Facts} (hn : noEnter o = true)
    (h : wpQuiet P ops (fun x => ∃ i : Ext w, x = i.w) (fun a' => wpMd P md ops M w L (k + 1) rest a' (upd S k (Deps md o S))) [o] a) : wpMd P md ops M w L k (o :: rest) a S := by
  unfold wpQuiet at h
  by_cases hw : Region.wanted o (yielded ops a.tmps) = true
  · rw [if_pos hw] at h
    obtain ⟨u, h1, h2⟩ := h
    have hrun : ∀ x, Up w x → (execOp a.eval o).run P x = .ok (.value u) x ∨ ((execOp a.eval o).run P x = .ok .skip x ∧ u = undef) := fun x hx => by
      have h3 := h1 x ⟨⟨x, hx⟩, rfl⟩
      unfold Oper.quietAt at h3
      have h4 := noEnter_spec (P := P) hn a.eval x
      generalize (execOp a.eval o).run P x = r at *
      cases r with
      | ok n x1 =>
        cases n with
        | value v => obtain ⟨rfl, rfl⟩ := h3; exact .inl rfl
        | skip => obtain ⟨rfl, rfl⟩ := h3; exact .inr ⟨rfl, rfl⟩
        | enter f args => exact absurd rfl (h4 f args x1)
        | _ => exact absurd h3 (by simp [Oper.quietUpon])
      | halt _ _ => exact absurd h3 (by simp [Oper.quietUpon])
    have key : ∀ v y, SPD P md M w o a S v y → v = u := fun v y ⟨x, x', g1, g2, g3, _⟩ => by
      rcases hrun x g1 with hr | ⟨hr, rfl⟩ <;> rw [hr] at g3
      · exact g3.1.symm
      · exact g3.1
    refine ⟨fun _ x hx hd => ?_, fun v T hv => ?_⟩
    · rcases hrun x hx with hr | ⟨hr, rfl⟩ <;> rw [hr] <;> exact Up.refl x
    · obtain ⟨h3, y, h4, h5, h6⟩ := hv
      unfold dT at h3
      rw [if_pos hw] at h3
      subst h3
      obtain rfl := key _ _ h6
      exact wpMd_more hL _ _ _ _ _ (More.upd (fun _ _ h => h) k (fun x ⟨_, _, _, _, _, _, h7⟩ => h7)) h2
  · rw [if_neg hw] at h
    refine ⟨fun hw' => absurd hw' hw, fun v T hv => ?_⟩
    obtain ⟨h3, y, h4, h5, h6⟩ := hv
    unfold dT at h3
    rw [if_neg hw] at h3
    obtain ⟨rfl, rfl⟩ := h3
    exact h

/-! The same, the facts behind a variable (else they double at each step). -/
theorem more_upd (S : Facts) (k : Nat) (T : World → Prop) : More S (upd S k T) := fun _ _ h => upd_old h
theorem wpMd_quietG {L : Act → Facts → Prop} (hL : AntiF w L) {k : Nat} {o : Oper} {rest : List Oper} {a : Act} {S : Facts} (hn : noEnter o = true)
    (h : ∀ S', More S S' → (∀ x, S' k x → Deps md o S x) → wpQuiet P ops (fun x => ∃ i : Ext w, x = i.w) (fun a' => wpMd P md ops M w L (k + 1) rest a' S') [o] a) : wpMd P md ops M w L k (o :: rest) a S :=
  wpMd_quiet hL hn (h _ (more_upd _ _ _) fun _ hx => upd_new hx)
theorem wpMd_enterG {L : Act → Facts → Prop} (hL : AntiF w L) {k : Nat} {o : Oper} {rest : List Oper} {a : Act} {S : Facts} (f : FuncId) (args : Array Value) (hK : ∀ v x y, M f args v x → Up x y → M f args v y)
    (hw : Region.wanted o (yielded ops a.tmps) = true) (hrun : ∀ x, (execOp a.eval o).run P x = .ok (.enter f args) x)
    (hc : ∀ x, Up w x → Deps md o S x → Calls P f args x fun e x' => ∃ v, e = .returned v ∧ Up x x' ∧ M f args v x')
    (h : ∀ v, (∃ y, Up w y ∧ M f args v y) → ∀ S', More S S' → (∀ x, S' k x → M f args v x ∧ Deps md o S x) → wpMd P md ops M w L (k + 1) rest (a.put o.dst v) S') : wpMd P md ops M w L k (o :: rest) a S :=
  wpMd_enter hL f args hK hw hrun hc fun v hv => h v hv _ (more_upd _ _ _) fun _ hx => upd_new hx
theorem wpMd_allocG {L : Act → Facts → Prop} (hL : AntiF w L) {k : Nat} {o : Oper} {rest : List Oper} {a : Act} {S : Facts} (cs : Array Value) (t : TypeId)
    (hw : Region.wanted o (yielded ops a.tmps) = true) (hrun : ∀ x, (execOp a.eval o).run P x = .ok (.value (.pointer (some ⟨x.heap.size, 0, none⟩))) (x.alloc (.cells cs t (0, 0))))
    (h : ∀ b, w.heap.size ≤ b → ∀ S', More S S' → (∀ x, S' k x → x.heap[b]? = some (.cells cs t (0, 0))) → wpMd P md ops M w L (k + 1) rest (a.put o.dst (.pointer (some ⟨b, 0, none⟩))) S') : wpMd P md ops M w L k (o :: rest) a S :=
  wpMd_alloc hL cs t hw hrun fun b hb => h b hb _ (more_upd _ _ _) fun _ hx => upd_new hx
end
end Go.Proofs.YtpccaifhcmcegaaGreat
end
