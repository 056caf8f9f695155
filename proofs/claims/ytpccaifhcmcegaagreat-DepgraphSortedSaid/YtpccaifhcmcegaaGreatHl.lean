/-
  Joined by a program: DgVp, DgTp, DgXp, DgFr.
-/
import Derived.Test.YtpccaifhcmcegaaGreatHi
import Derived.Test.YtpccaifhcmcegaaGreatHk

section
namespace Go.Proofs.YtpccaifhcmcegaaGreat
set_option linter.unusedSimpArgs false
open Go.ChangeShapes Go.WideShapes Go.ChangeAt Go.RowKit
set_option linter.unusedVariables false
set_option maxRecDepth 100000

abbrev LvL := List (ByteArray × Nat)
def levS (R : List ByteArray) (n : Nat) (x : ByteArray × Nat) : Nat := if has R x.1 = true then max n (x.2 + 1) else n
/-- The level of a definition that reads R, behind the levels of the elder ones. -/
def levA (acc : LvL) (R : List ByteArray) : Nat := acc.foldl (levS R) 0
def levB (acc : LvL) (d : Df) : LvL := acc ++ [(d.nm, levA acc (readsF d.body))]
/-- Each definition's name and level. -/
def levP (l : List Df) : LvL := l.foldl levB []
theorem levP_take {l : List Df} {i n : Nat} (hn : l.length = n) (hi : i < n) : levP (l.take (i + 1)) = levP (l.take i) ++ [((l[i]'(by omega)).nm, levA (levP (l.take i)) (readsF (l[i]'(by omega)).body))] := by
  subst hn
  unfold levP
  rw [List.take_succ_eq_append_getElem hi, List.foldl_append]; rfl
theorem levP_snoc (l : List Df) (d : Df) : levP (l ++ [d]) = levP l ++ [(d.nm, levA (levP l) (readsF d.body))] := by
  unfold levP; rw [List.foldl_append]; rfl
theorem df_snoc {P : List Df → Prop} (h0 : P []) (h1 : ∀ l d, P l → P (l ++ [d])) : ∀ l, P l := by
  intro l
  have key : ∀ n (l : List Df), l.length = n → P l := fun n => by
    induction n with
    | zero => intro l h; rw [List.eq_nil_of_length_eq_zero h]; exact h0
    | succ n ih =>
      intro l h
      have hne : l ≠ [] := by intro e; subst e; cases h
      have e := List.dropLast_concat_getLast hne
      rw [← e]
      exact h1 _ _ (ih _ (by rw [List.length_dropLast]; omega))
  exact key _ _ rfl
theorem levP_len : ∀ l : List Df, (levP l).length = l.length := df_snoc rfl fun l d h => by rw [levP_snoc, List.length_append, List.length_append, h]; rfl
theorem levP_names : ∀ l : List Df, (levP l).map (·.1) = l.map (·.nm) := df_snoc rfl fun l d h => by rw [levP_snoc, List.map_append, List.map_append, h]; rfl
theorem levP_pre (l m : List Df) : ∃ t, levP (l ++ m) = levP l ++ t := by
  revert m
  refine df_snoc (P := fun m => ∃ t, levP (l ++ m) = levP l ++ t) ⟨[], by simp⟩ fun m d ⟨t, ht⟩ => ?_
  exact ⟨t ++ [_], by rw [← List.append_assoc, levP_snoc, ht, List.append_assoc]⟩
theorem levP_take_eq (l : List Df) (i : Nat) : (levP l).take i = levP (l.take i) := by
  obtain ⟨t, ht⟩ := levP_pre (l.take i) (l.drop i)
  rw [List.take_append_drop] at ht
  by_cases hi : i ≤ l.length
  · rw [ht, List.take_append_of_le_length (by rw [levP_len, List.length_take]; omega), List.take_of_length_le (by rw [levP_len, List.length_take]; omega)]
  · rw [List.take_of_length_le (by rw [levP_len]; omega), List.take_of_length_le (by omega)]
theorem levS_take {acc : LvL} {R : List ByteArray} {i n : Nat} (hn : acc.length = n) (hi : i < n) : (acc.take (i + 1)).foldl (levS R) 0 = levS R ((acc.take i).foldl (levS R) 0) (acc[i]'(by omega)) := by
  subst hn
  rw [List.take_succ_eq_append_getElem hi, List.foldl_append]; rfl
def mxS (m : Nat) (x : ByteArray × Nat) : Nat := max m (x.2 + 1)
/-- How many levels there are. -/
def mxA (acc : LvL) : Nat := acc.foldl mxS 0
theorem foldl_mxS_ge : ∀ (acc : LvL) (m : Nat), m ≤ acc.foldl mxS m
  | [], m => Nat.le_refl _
  | x :: r, m => by
    rw [List.foldl_cons]
    exact Nat.le_trans (by unfold mxS; omega) (foldl_mxS_ge r _)
theorem mxA_mem : ∀ (acc : LvL) (m : Nat) (x : ByteArray × Nat), x ∈ acc → x.2 + 1 ≤ acc.foldl mxS m
  | [], _, _, h => by cases h
  | y :: r, m, x, h => by
    rw [List.foldl_cons]
    rcases List.mem_cons.1 h with rfl | h
    · exact Nat.le_trans (by unfold mxS; omega) (foldl_mxS_ge r _)
    · exact mxA_mem r _ x h
theorem levS_le (R : List ByteArray) (b : Nat) : ∀ (acc : LvL) (n : Nat), n ≤ b → (∀ x ∈ acc, x.2 + 1 ≤ b) → acc.foldl (levS R) n ≤ b
  | [], n, h, _ => h
  | y :: r, n, h, hx => by
    rw [List.foldl_cons]
    refine levS_le R b r _ ?_ (fun x hx' => hx x (List.mem_cons_of_mem _ hx'))
    have := hx y List.mem_cons_self
    unfold levS; split <;> omega
theorem levA_le (acc : LvL) (R : List ByteArray) : levA acc R ≤ mxA acc := levS_le R _ acc 0 (Nat.zero_le _) fun x hx => mxA_mem acc 0 x hx
theorem mxA_snoc (acc : LvL) (x : ByteArray × Nat) : mxA (acc ++ [x]) = max (mxA acc) (x.2 + 1) := by unfold mxA; rw [List.foldl_append]; rfl
theorem lev_all : ∀ l : List Df, ∀ j, j < mxA (levP l) → ∃ x ∈ levP l, x.2 = j :=
  df_snoc (fun j h => absurd h (Nat.not_lt_zero _)) fun l d h j hj => by
    rw [levP_snoc, mxA_snoc] at hj
    rw [levP_snoc]
    have h1 := levA_le (levP l) (readsF d.body)
    by_cases hjl : j < mxA (levP l)
    · obtain ⟨x, hx, e⟩ := h j hjl
      exact ⟨x, List.mem_append_left _ hx, e⟩
    · refine ⟨_, List.mem_append_right _ (List.mem_singleton.2 rfl), ?_⟩
      dsimp only at hj ⊢
      omega
theorem mxA_len : ∀ l : List Df, mxA (levP l) ≤ l.length := df_snoc (Nat.le_refl _) fun l d h => by
  rw [levP_snoc, mxA_snoc, List.length_append]
  have h1 := levA_le (levP l) (readsF d.body)
  simp only [List.length_cons, List.length_nil]
  omega
def lvB (n : Nat) (x : ByteArray × Nat) : Bool := decide (x.2 = n)
/-- The names of a level. -/
def rowP (acc : LvL) (n : Nat) : List ByteArray := (acc.filter (lvB n)).map (·.1)
theorem rowP_take {acc : LvL} {k i n : Nat} (hn : acc.length = n) (hi : i < n) : rowP (acc.take (i + 1)) k = if (acc[i]'(by omega)).2 = k then rowP (acc.take i) k ++ [(acc[i]'(by omega)).1] else rowP (acc.take i) k := by
  subst hn
  unfold rowP
  rw [List.take_succ_eq_append_getElem hi, List.filter_append, List.map_append]
  split
  · rename_i h; rw [List.filter_cons_of_pos (by unfold lvB; exact decide_eq_true h)]; rfl
  · rename_i h; rw [List.filter_cons_of_neg (by unfold lvB; simpa using h)]; simp
theorem rowP_len (acc : LvL) (n : Nat) : (rowP acc n).length ≤ acc.length := by unfold rowP; rw [List.length_map]; exact List.length_filter_le _ _
theorem rowP_ne (l : List Df) (j : Nat) (hj : j < mxA (levP l)) : rowP (levP l) j ≠ [] := by
  obtain ⟨x, hx, e⟩ := lev_all l j hj
  intro h
  have : x.1 ∈ rowP (levP l) j := List.mem_map.2 ⟨x, List.mem_filter.2 ⟨hx, decide_eq_true e⟩, rfl⟩
  rw [h] at this
  cases this
theorem rowP_mx (l : List Df) : rowP (levP l) (mxA (levP l)) = [] := by
  unfold rowP
  rw [List.filter_eq_nil_iff.2 fun x hx => ?_]; rfl
  have := mxA_mem (levP l) 0 x hx
  unfold lvB
  have e : mxA (levP l) = (levP l).foldl mxS 0 := rfl
  simp only [decide_eq_true_eq]
  omega
/-- What Levels returns. -/
def lvF (l : List Df) : List (List ByteArray) := (List.range (mxA (levP l))).map (rowP (levP l))
theorem lvF_of {l : List Df} {n : Nat} (h0 : rowP (levP l) n = []) (h1 : ∀ j, j < n → rowP (levP l) j ≠ []) : (List.range n).map (rowP (levP l)) = lvF l := by
  have e : n = mxA (levP l) := by
    rcases Nat.lt_trichotomy n (mxA (levP l)) with h | h | h
    · exact absurd h0 (rowP_ne l n h)
    · exact h
    · exact absurd (rowP_mx l) (h1 _ h)
  rw [e]; rfl
theorem range_snoc {α : Type} (f : Nat → α) (n : Nat) : (List.range (n + 1)).map f = (List.range n).map f ++ [f n] := by
  rw [List.range_succ, List.map_append]; rfl
end Go.Proofs.YtpccaifhcmcegaaGreat
end

section
namespace Go.Proofs.YtpccaifhcmcegaaGreat
set_option linter.unusedSimpArgs false
open Go.ChangeShapes Go.WideShapes Go.ChangeAt Go.RowKit
set_option linter.unusedVariables false
set_option maxRecDepth 100000

/-- The definitions in their order, or none where some remain that cannot be removed. -/
def topoL : Nat → List Df → List Df → Option (List Df)
  | 0, rest, out => if rest.length = 0 then some out else none
  | f + 1, rest, out =>
    if rest.length = 0 then some out
    else if h : rest.findIdx (rdyB rest) < rest.length then topoL f (rest.take (rest.findIdx (rdyB rest)) ++ rest.drop (rest.findIdx (rdyB rest) + 1)) (out ++ [rest[rest.findIdx (rdyB rest)]]) else none
theorem topoL_nil (f : Nat) (out : List Df) : topoL f [] out = some out := by
  cases f <;> rfl
theorem topoL_step {f k n : Nat} {rest out : List Df} (hn : rest.length = n) (hf : n ≤ f + 1) (hk : k < n) (h1 : rdyB rest (rest[k]'(by omega)) = true) (h2 : ∀ j (h : j < k), rdyB rest (rest[j]'(by omega)) = false) :
    topoL (f + 1) rest out = topoL f (rest.take k ++ rest.drop (k + 1)) (out ++ [rest[k]'(by omega)]) := by
  subst hn
  have e : rest.findIdx (rdyB rest) = k := (List.findIdx_eq hk).2 ⟨h1, h2⟩
  rw [topoL, if_neg (by omega), dif_pos (by rw [e]; exact hk)]
  simp only [e]
theorem topoL_stop {f n : Nat} {rest out : List Df} (hn : rest.length = n) (h0 : 0 < n) (h2 : ∀ j (h : j < n), rdyB rest (rest[j]'(by omega)) = false) : topoL (f + 1) rest out = none := by
  subst hn
  have e : ¬ rest.findIdx (rdyB rest) < rest.length := by
    rw [List.findIdx_lt_length]
    rintro ⟨x, hx, h⟩
    obtain ⟨j, hj, rfl⟩ := List.mem_iff_getElem.1 hx
    rw [h2 j hj] at h
    cases h
  rw [topoL, if_neg (by omega), dif_neg e]
def zeroP : Pg := ⟨[], [], [], [], []⟩
/-- What TopoSort returns. -/
def topoF (p : Pg) : Pg × Int := match topoL p.defs.length p.defs [] with
  | some l => ({ p with defs := l }, 0)
  | none => (zeroP, 9)
theorem topoF_some {p : Pg} {l : List Df} (h : topoL p.defs.length p.defs [] = some l) : topoF p = ({ p with defs := l }, 0) := by unfold topoF; rw [h]
theorem topoF_none {p : Pg} (h : topoL p.defs.length p.defs [] = none) : topoF p = (zeroP, 9) := by unfold topoF; rw [h]
theorem zeroP_at (N : Nat) (w : World) : ProgAt N w (.agg #[.slice none 0 0, .slice none 0 0, .slice none 0 0, .slice none 0 0, .slice none 0 0]) zeroP :=
  ProgAt.mk (LsAt.nil _ _ _ _) (LsAt.nil _ _ _ _) (LsAt.nil _ _ _ _) (LsAt.nil _ _ _ _) (LsAt.nil _ _ _ _)
/-- The first k are not ready. -/
def NotR (rest : List Df) (k : Nat) : Prop := ∀ j (h : j < rest.length), j < k → rdyB rest rest[j] = false
theorem NotR.zero (rest : List Df) : NotR rest 0 := fun j _ h => absurd h (Nat.not_lt_zero _)
theorem NotR.next {rest : List Df} {k : Nat} (h : NotR rest k) {hk : k < rest.length} (hb : rdyB rest rest[k] = false) : NotR rest (k + 1) := fun j hj hjk => by
  by_cases e : j = k
  · subst e; exact hb
  · exact h j hj (by omega)
def lenOf' (v : Value) : Nat := match v with | .slice _ n _ => n | _ => 0
/-- What a round knows of the two rows. -/
def SumT (T : Option (List Df)) (rest out : List Df) : Prop := topoL rest.length rest out = T ∧ rest.length + out.length ≤ 40 ∧ ∀ d ∈ rest, tot d.body ≤ 1500
end Go.Proofs.YtpccaifhcmcegaaGreat
end

section
namespace Go.Proofs.YtpccaifhcmcegaaGreat
set_option linter.unusedSimpArgs false
open Go.ChangeShapes Go.WideShapes Go.ChangeAt Go.RowKit
set_option linter.unusedVariables false
set_option maxRecDepth 100000

/-- Each name of the list can be reached: by a given one, or by what lies behind it on the list. -/
def chkS (all : List ByteArray) (D : List Df) (fr : List ByteArray) : List ByteArray → Bool
  | [] => true
  | x :: r => chkS all D fr r && (has all x && (has fr x || r.any fun z => has (inF D z) x))
theorem chkS_ok {all : List ByteArray} {D : List Df} {fr : List ByteArray} : ∀ {S : List ByteArray}, chkS all D fr S = true → ∀ x ∈ S, Rch all D fr x
  | [], _, x, h => absurd h (by simp)
  | y :: r, h, x, hx => by
    simp only [chkS, Bool.and_eq_true, Bool.or_eq_true] at h
    obtain ⟨h1, h2, h3⟩ := h
    rcases List.mem_cons.1 hx with rfl | hx
    · rcases h3 with h3 | h3
      · exact .base (has_iff.1 h3) (has_iff.1 h2)
      · obtain ⟨z, hz, h4⟩ := List.any_eq_true.1 h3
        exact .step (chkS_ok h1 z hz) (has_iff.1 h4) (has_iff.1 h2)
    · exact chkS_ok h1 x hx
/-- The list holds all that can be reached. -/
def cloS (all : List ByteArray) (D : List Df) (fr S : List ByteArray) : Bool := (fr.all fun x => !has all x || has S x) && S.all fun x => (inF D x).all fun y => !has all y || has S y
theorem cloS_ok {all : List ByteArray} {D : List Df} {fr S : List ByteArray} (h : cloS all D fr S = true) {x : ByteArray} (hx : Rch all D fr x) : x ∈ S := by
  unfold cloS at h
  rw [Bool.and_eq_true, List.all_eq_true, List.all_eq_true] at h
  induction hx with
  | base h1 h2 =>
    have := h.1 _ h1
    rw [has_iff.2 h2] at this
    exact has_iff.1 (by simpa using this)
  | step _ h1 h2 ih =>
    have := List.all_eq_true.1 (h.2 _ ih) _ h1
    rw [has_iff.2 h2] at this
    exact has_iff.1 (by simpa using this)
theorem rchF_eq {p : Pg} {fr : List ByteArray} (S : List ByteArray) (h1 : chkS (ordF p) p.defs fr S = true) (h2 : cloS (ordF p) p.defs fr S = true) : rchF p fr = (ordF p).filter (has S) := by
  unfold rchF
  refine List.filter_congr fun x _ => ?_
  rw [Bool.eq_iff_iff, cdec_iff, has_iff]
  exact ⟨cloS_ok h2, chkS_ok h1 x⟩
def bA : ByteArray := ⟨#[97]⟩
def bB : ByteArray := ⟨#[98]⟩
def bC : ByteArray := ⟨#[99]⟩
def bD : ByteArray := ⟨#[100]⟩
def rdE (s : ByteArray) : Ex := .mk 3 s 0 0 (0, 0, 0, 0, 0) (0, []) [] []
def exT : Typ := (1, 0, 0, 0, 0)
def exP : Pg := ⟨[], [], [(bA, exT, [])], [⟨bB, exT, [], [], 0, rdE bA⟩, ⟨bC, exT, [], [], 0, rdE bB⟩, ⟨bD, exT, [], [], 0, rdE bA⟩], [bC]⟩
theorem ex_rchC : rchF exP [bC] = [bA, bB, bC] := by
  rw [rchF_eq [bA, bB, bC] (by decide +kernel) (by decide +kernel)]
  decide +kernel
theorem ex_rchA : rchF exP [bA] = [bA] := by
  rw [rchF_eq [bA] (by decide +kernel) (by decide +kernel)]
  decide +kernel
theorem ex_rchB : rchF exP [bB] = [bA, bB] := by
  rw [rchF_eq [bA, bB] (by decide +kernel) (by decide +kernel)]
  decide +kernel
theorem ex_btw : btwF exP bA bC = [bA, bB, bC] := by
  unfold btwF
  rw [ex_rchC]
  simp only [List.filter_cons, ex_rchA, ex_rchB, ex_rchC]
  decide +kernel
theorem ex_lv : lvF exP.defs = [[bB, bD], [bC]] := by decide +kernel
theorem ex_in : inF exP.defs bC = [bB] := by decide +kernel
theorem ex_cons : consF exP.defs bA = [bB, bD] := by decide +kernel
theorem ex_topo : ∃ l, topoL exP.defs.length exP.defs [] = some l ∧ l.length = 3 := by
  have h : ((topoL exP.defs.length exP.defs []).map (·.length)) = some 3 := by decide +kernel
  cases e : topoL exP.defs.length exP.defs [] with
  | none => rw [e] at h; cases h
  | some l => rw [e] at h; exact ⟨l, rfl, by simpa using h⟩
theorem ex_rm : (rmF exP).defs.length = 2 := by
  unfold rmF
  show (exP.defs.filter fun d => has (rchF exP [bC]) d.nm).length = 2
  rw [ex_rchC]
  decide +kernel
theorem ex_tot : ∀ d ∈ exP.defs, tot d.body ≤ 1500 := by
  intro d hd
  have h : (exP.defs.all fun d => decide (tot d.body ≤ 1500)) = true := by decide +kernel
  exact of_decide_eq_true (List.all_eq_true.1 h d hd)
end Go.Proofs.YtpccaifhcmcegaaGreat
end

section
namespace Go.Proofs.YtpccaifhcmcegaaGreat
set_option linter.unusedSimpArgs false
open Go.ChangeShapes Go.WideShapes Go.ChangeAt Go.RowKit
set_option linter.unusedVariables false
set_option maxRecDepth 100000

/-- The later world agrees with the earlier one outside the blocks of X. -/
structure Kp (X : Nat → Prop) (w w' : World) : Prop where
  os : w'.os = w.os
  tape : w'.tape = w.tape
  output : w'.output = w.output
  size : w.heap.size ≤ w'.heap.size
  block : ∀ i, i < w.heap.size → ¬ X i → w'.heap[i]? = w.heap[i]?
theorem Kp.refl (X : Nat → Prop) (w : World) : Kp X w w := ⟨rfl, rfl, rfl, Nat.le_refl _, fun _ _ _ => rfl⟩
theorem Kp.of_up {X : Nat → Prop} {w w' : World} (h : Up w w') : Kp X w w' := ⟨Below.os h, Below.tape h, Below.output h, Below.size h, fun i hi _ => Below.block h i hi⟩
theorem Kp.of_by {X : Nat → Prop} {w w' : World} {row : Option Nat} (h : w.grownBy w' row) (hX : ∀ g, row = some g → X g) : Kp X w w' := ⟨h.os, h.tape, h.output, h.size, fun i hi hx => h.block i hi fun e => hx (hX i e.symm)⟩
theorem Kp.trans {X Y Z : Nat → Prop} {a b c : World} (h : Kp X a b) (k : Kp Y b c) (hX : ∀ i, i < a.heap.size → X i → Z i) (hY : ∀ i, i < a.heap.size → Y i → Z i) : Kp Z a c :=
  ⟨k.os.trans h.os, k.tape.trans h.tape, k.output.trans h.output, Nat.le_trans h.size k.size, fun i hi hz => (k.block i (Nat.lt_of_lt_of_le hi h.size) (fun y => hz (hY i hi y))).trans (h.block i hi fun x => hz (hX i hi x))⟩
theorem Kp.after {X : Nat → Prop} {w0 w w' : World} (u : Up w0 w) (h : Kp X w w') (hX : ∀ i, i < w0.heap.size → ¬ X i) : Up w0 w' :=
  ⟨h.os.trans (Below.os u), h.tape.trans (Below.tape u), h.output.trans (Below.output u), Nat.le_trans u.size h.size, fun i hi => (h.block i (Nat.lt_of_lt_of_le hi u.size) (hX i hi)).trans (Below.block u i hi)⟩
/-- P holds in every world that agrees outside X. -/
def Fr (X : Nat → Prop) (P : World → Prop) (w : World) : Prop := ∀ w', Kp X w w' → P w'
theorem Fr.here {X : Nat → Prop} {P : World → Prop} {w : World} (h : Fr X P w) : P w := h w (Kp.refl X w)
theorem Fr.to {X Y Z : Nat → Prop} {P : World → Prop} {w w' : World} (h : Fr X P w) (k : Kp Y w w') (hY : ∀ i, i < w.heap.size → Y i → X i) (hZ : ∀ i, i < w.heap.size → Z i → X i) : Fr Z P w' :=
  fun x hx => h x (k.trans hx hY hZ)
theorem Fr.less {X Z : Nat → Prop} {P : World → Prop} {w : World} (h : Fr X P w) (hZ : ∀ i, i < w.heap.size → Z i → X i) : Fr Z P w := fun x hx => h x ((Kp.refl X w).trans hx (fun _ _ h => h) hZ)
theorem Fr.up {X : Nat → Prop} {P : World → Prop} {w w' : World} (h : Fr X P w) (u : Up w w') : Fr X P w' := h.to (Kp.of_up (X := X) u) (fun _ _ h => h) (fun _ _ h => h)
theorem Fr.kp {X Y : Nat → Prop} {P : World → Prop} {w w' : World} (h : Fr X P w) (k : Kp Y w w') (hY : ∀ i, i < w.heap.size → Y i → X i) : Fr X P w' := h.to k hY (fun _ _ h => h)
theorem Fr.by {X : Nat → Prop} {P : World → Prop} {w w' : World} {row : Option Nat} (h : Fr X P w) (k : w.grownBy w' row) (hY : ∀ g, row = some g → X g) : Fr X P w' := h.kp (Kp.of_by k hY) (fun _ _ h => h)
theorem Fr.wide {X : Nat → Prop} {P : World → Prop} {w w' : World} (h : Fr X P w) (u : Up w w') : Fr (fun b => X b ∨ w.heap.size ≤ b) P w' := h.to (Kp.of_up (X := X) u) (fun _ _ h => h) (fun i hi h => h.elim id fun h => by omega)
theorem Fr.mono {X : Nat → Prop} {P Q : World → Prop} {w : World} (h : Fr X P w) (hPQ : ∀ w', P w' → Q w') : Fr X Q w := fun x hx => hPQ x (h x hx)
theorem Fr.and {X : Nat → Prop} {P Q : World → Prop} {w : World} (h : Fr X P w) (k : Fr X Q w) : Fr X (fun y => P y ∧ Q y) w := fun x hx => ⟨h x hx, k x hx⟩
theorem Fr.of {P : World → Prop} {w : World} (h : P w) (hP : ∀ w', P w → Up w w' → P w') : Fr (fun b => w.heap.size ≤ b) P w := fun x hx => hP x h (hx.after (Up.refl w) fun i hi h => by omega)
theorem Fr.ofR {α : Type} {R : Rel α} (hR : UpR R) {w : World} {f : Nat → Value} {x : α} (h : R w f x) : Fr (fun b => w.heap.size ≤ b) (fun y => R y f x) w := Fr.of h fun w' h u => hR _ _ _ _ h u

/-! ### Rows -/
/-- A block that is emptied. -/
def wipe (w : World) (g : Nat) : World := { w with heap := w.heap.setIfInBounds g (.cells #[] 0 (0, 0)) }
theorem wipe_kp {X : Nat → Prop} {w : World} {g : Nat} (hg : X g) : Kp X w (wipe w g) :=
  ⟨rfl, rfl, rfl, by simp [wipe], fun i hi hx => by
    show (w.heap.setIfInBounds g _)[i]? = _
    rw [Array.getElem?_setIfInBounds_ne (fun e : g = i => hx (e ▸ hg))]⟩
theorem wipe_cell {w : World} {g : Nat} (hg : g < w.heap.size) (o : Nat) : (wipe w g).cell? ⟨g, o, none⟩ = none := by
  have h : (wipe w g).heap[g]? = some (.cells #[] 0 (0, 0)) := by
    show (w.heap.setIfInBounds g _)[g]? = _
    rw [Array.getElem?_setIfInBounds_self_of_lt hg]
  rw [cell_of_row _ _ _ _ _ _ h]; rfl
theorem Fr.sl {X : Nat → Prop} {w : World} {v : Value} {n k : Nat} (hk : 0 < k) (h : Fr X (fun y => ∃ F, SlAt y v n k F) w) {F : Nat → Nat → Value} (hF : SlAt w v n k F) : Fr X (fun y => SlAt y v n k F) w := by
  intro w' hw'
  obtain ⟨F', h'⟩ := h w' hw'
  obtain ⟨⟨a, c, rfl, h0, hx⟩, hm⟩ := hF
  obtain ⟨⟨a', c', e', h0', hx'⟩, hm'⟩ := h'
  cases e'
  refine ⟨⟨a, c, rfl, h0, fun x hxa hl => ?_⟩, hm⟩
  obtain ⟨g1, g2, g3⟩ := hx x hxa hl
  have hnX : ¬ X x.block := fun hX => by
    obtain ⟨F2, ⟨a2, c2, e2, _, hx2⟩, _⟩ := h _ (wipe_kp hX)
    cases e2
    have := (hx2 x hxa hl).2.2 0 0 hl hk
    rw [wipe_cell g2] at this
    cases this
  exact ⟨g1, Nat.lt_of_lt_of_le g2 hw'.size, fun i j hi hj => (World.cell?_of_block (w := w) (a := ⟨x.block, x.off + i * k + j, none⟩) (hw'.block _ g2 hnX)).trans (g3 i j hi hj)⟩
theorem SlAt.agree {w : World} {v : Value} {n k : Nat} {F G : Nat → Nat → Value} (h : SlAt w v n k F) (h' : SlAt w v n k G) (i j : Nat) (hi : i < n) (hj : j < k) : F i j = G i j := by
  obtain ⟨⟨a, c, rfl, h0, hx⟩, hm⟩ := h
  obtain ⟨⟨a', c', e', h0', hx'⟩, hm'⟩ := h'
  cases e'
  cases a with
  | none => have := h0 rfl; omega
  | some x =>
    have h1 := (hx x rfl (by omega)).2.2 i j hi hj
    have h2 := (hx' x rfl (by omega)).2.2 i j hi hj
    rw [h1] at h2
    exact Option.some.inj h2
/-- A row's elements, each with its own part of the memory. -/
theorem Fr.ls {α : Type} {X : Nat → Prop} {k B : Nat} {R : Rel α} (hR : Rk k R) (hk : 0 < k) {w : World} {v : Value} {l : List α} (h : Fr X (fun y => LsAt k B R y v l) w) :
    ∃ F : Nat → Nat → Value, Fr X (fun y => SlAt y v l.length k F) w ∧ ∀ i (hi : i < l.length), Fr X (fun y => R y (F i) l[i]) w := by
  obtain ⟨h1, hb, F, hs, he⟩ := h.here
  have hS : Fr X (fun y => SlAt y v l.length k F) w := Fr.sl hk (h.mono fun y hy => let ⟨_, _, F', h', _⟩ := hy; ⟨F', h'⟩) hs
  refine ⟨F, hS, fun i hi y hy => ?_⟩
  obtain ⟨_, _, F', h', he'⟩ := h y hy
  exact hR.congr _ _ _ _ (he' i hi) fun j hj => (SlAt.agree (hS y hy) h' i j hi hj).symm
theorem Fr.mkLs {α : Type} {X : Nat → Prop} {k B : Nat} {R : Rel α} {w : World} {v : Value} {l : List α} {F : Nat → Nat → Value} (h1 : ∃ a c, v = .slice a l.length c ∧ l.length ≤ c) (hb : l.length * B ≤ 140737488351232) (hS : Fr X (fun y => SlAt y v l.length k F) w) (hE : ∀ i (hi : i < l.length), Fr X (fun y => R y (F i) l[i]) w) :
    Fr X (fun y => LsAt k B R y v l) w := fun y hy => ⟨h1, hb, F, hS y hy, fun i hi => hE i hi y hy⟩
theorem Fr.lsLen {α : Type} {X : Nat → Prop} {k B : Nat} {R : Rel α} {w : World} {v : Value} {l : List α} (h : Fr X (fun y => LsAt k B R y v l) w) : (∃ a c, v = .slice a l.length c ∧ l.length ≤ c) ∧ l.length * B ≤ 140737488351232 := ⟨h.here.1, h.here.2.1⟩

/-! ### Own rows -/
theorem own_kp {X : Nat → Prop} {w w' : World} {base n k : Nat} {e : TypeId} {v : Value} {xs : List Value} (h : w.ownsRow base e k v n xs) (hk : Kp X w w') (hX : ∀ g, v.ownBlock = some g → ¬ X g) : w'.ownsRow base e k v n xs := by
  refine ⟨h.1, ?_⟩
  rcases h.2 with ⟨hv, h0⟩ | ⟨g, cap, cur, hv, hb, hg, hr⟩
  · exact .inl ⟨hv, h0⟩
  · exact .inr ⟨g, cap, cur, hv, hb, (hk.block g (Array.getElem?_eq_some_iff.1 hg).1 (hX g (by rw [hv]; rfl))).trans hg, hr⟩
theorem own_fr {X : Nat → Prop} {w : World} {base n k : Nat} {e : TypeId} {v : Value} {F : Nat → Nat → Value} (h : w.ownsRow base e k v n (flat F n k)) (hn : n ≤ 9223372036854775807) (hX : ∀ g, v.ownBlock = some g → ¬ X g) : Fr X (fun y => SlAt y v n k F) w :=
  fun y hy => SlAt.of_own (own_kp h hy hX) hn fun i j hi hj => flat_get F _ _ _ _ hi hj
theorem own_lt {w : World} {base n k : Nat} {e : TypeId} {v : Value} {xs : List Value} (h : w.ownsRow base e k v n xs) : ∀ g, v.ownBlock = some g → g < w.heap.size := fun g hg => by
  rcases h.2 with ⟨rfl, _⟩ | ⟨g', cap, cur, rfl, hb, hh, _⟩
  · cases hg
  · cases hg; exact (Array.getElem?_eq_some_iff.1 hh).1
/-- An own row whose elements lie outside A and outside the row itself. -/
def OwnX {α : Type} (k : Nat) (R : Rel α) (A : Nat → Prop) (base : Nat) (e : TypeId) (w : World) (v : Value) (l : List α) : Prop :=
  ∃ F : Nat → Nat → Value, w.ownsRow base e k v l.length (flat F l.length k) ∧ ∀ i (h : i < l.length), Fr (fun b => A b ∨ v.ownBlock = some b) (fun y => R y (F i) l[i]) w
section
variable {α : Type} {k : Nat} {R : Rel α} {A : Nat → Prop} {base : Nat} {e : TypeId} {w w' : World} {v : Value} {l : List α}
theorem OwnX.nil : OwnX k R A base e w (.slice none 0 0) [] :=
  ⟨fun _ _ => undef, by have := World.ownsRow_nil (w := w) (base := base) (e := e) (size := k); simpa [flat] using this, fun i h => absurd h (Nat.not_lt_zero _)⟩
theorem OwnX.shape (h : OwnX k R A base e w v l) : ∃ a c, v = .slice a l.length c := let ⟨F, h1, _⟩ := h; own_slice h1
theorem OwnX.low (h : OwnX k R A base e w v l) : ∀ g, v.ownBlock = some g → base ≤ g := let ⟨F, h1, _⟩ := h; own_base h1
theorem OwnX.lt (h : OwnX k R A base e w v l) : ∀ g, v.ownBlock = some g → g < w.heap.size := let ⟨F, h1, _⟩ := h; own_lt h1
theorem OwnX.kp {Y A' : Nat → Prop} (h : OwnX k R A base e w v l) (hk : Kp Y w w') (hY : ∀ i, i < w.heap.size → Y i → A i) (hv : ∀ g, v.ownBlock = some g → ¬ Y g) (hA : ∀ i, i < w.heap.size → A' i → A i) : OwnX k R A' base e w' v l :=
  let ⟨F, h1, h2⟩ := h
  ⟨F, own_kp h1 hk hv, fun i hi => (h2 i hi).to hk (fun i h y => .inl (hY i h y)) (fun i h z => z.imp (hA i h) id)⟩
theorem OwnX.up (h : OwnX k R A base e w v l) (u : Up w w') : OwnX k R A base e w' v l := h.kp (Kp.of_up (X := fun _ => False) u) (fun _ _ h => h.elim) (fun _ _ h => h) (fun _ _ h => h)
theorem OwnX.ls {B : Nat} (h : OwnX k R A base e w v l) (hA : ∀ b, A b → b < base) (hB : 1 ≤ B) (hb : l.length * B ≤ 140737488351232) : Fr A (fun y => LsAt k B R y v l) w := by
  obtain ⟨F, h1, h2⟩ := h
  obtain ⟨a, c, rfl⟩ := own_slice h1
  have : l.length * 1 ≤ l.length * B := Nat.mul_le_mul_left _ hB
  exact Fr.mkLs ⟨a, c, rfl, own_cap h1⟩ hb (own_fr h1 (by omega) fun g hg hX => by have := own_base h1 g hg; have := hA g hX; omega) fun i hi => (h2 i hi).less fun _ _ h => .inl h
end
/-- One new element. -/
theorem OwnX.app1 {α : Type} {k : Nat} {R : Rel α} {A : Nat → Prop} (hk : 0 < k) {base : Nat} {e : TypeId} {w w' : World} {v v' : Value} {l : List α} {x : α} {F G : Nat → Nat → Value}
    (h : w'.ownsRow base e k v' (l.length + 1) (flat F l.length k ++ flat G 1 k)) (hF : ∀ i (h : i < l.length), Fr (fun b => A b ∨ v.ownBlock = some b) (fun y => R y (F i) l[i]) w) (hG : Fr (fun b => A b ∨ v.ownBlock = some b) (fun y => R y (G 0) x) w)
    (hg : w.grownBy w' v.ownBlock) (hb : v'.ownBlock = v.ownBlock ∨ v'.ownBlock = some w.heap.size) : OwnX k R A base e w' v' (l ++ [x]) := by
  have key : ∀ f y, Fr (fun b => A b ∨ v.ownBlock = some b) (fun z => R z f y) w → Fr (fun b => A b ∨ v'.ownBlock = some b) (fun z => R z f y) w' := fun f y hf => by
    refine hf.to (Kp.of_by (X := fun b => v.ownBlock = some b) hg fun g h => h) (fun _ _ h => .inr h) (fun i hi h => ?_)
    rcases h with h | h
    · exact .inl h
    · rcases hb with hb | hb
      · exact .inr (hb.symm.trans h)
      · rw [hb] at h; cases h; omega
  refine ⟨both F G l.length, ?_, fun i hi => ?_⟩
  · rw [List.length_append, List.length_singleton, ← flat_app _ _ _ _ _ hk]; exact h
  · rw [List.length_append, List.length_singleton] at hi
    by_cases h1 : i < l.length
    · rw [List.getElem_append_left h1, show both F G l.length i = F i from funext fun j => if_pos h1]
      exact key _ _ (hF i h1)
    · obtain rfl : i = l.length := by omega
      have e1 : (l ++ [x])[l.length]'(by simp) = x := by simp
      rw [e1, show both F G l.length l.length = G 0 from funext fun j => by show (if _ then _ else _) = _; rw [if_neg (Nat.lt_irrefl _), Nat.sub_self]]
      exact key _ _ hG
/-- One struct as a slice, its cells open. -/
theorem SlAt.one {w : World} {b : Nat} {E : TypeId} {cs : Array Value} {k : Nat} (hs : cs.size = k) (h : w.heap[b]? = some (.cells cs E (0, 0))) : SlAt w (.slice (some ⟨b, 0, none⟩) 1 1) 1 k (fun _ j => cs.getD j undef) := by
  refine ⟨⟨_, _, rfl, (fun h => nomatch h), fun y hy _ => ?_⟩, by decide⟩
  cases hy
  refine ⟨rfl, (Array.getElem?_eq_some_iff.1 h).1, fun i j hi hj => ?_⟩
  obtain rfl : i = 0 := by omega
  rw [cell_of_row _ _ _ _ _ _ h, Nat.zero_mul, Nat.add_zero, Nat.zero_add, Array.getD_eq_getD_getElem?, Array.getElem?_eq_getElem (by omega)]; rfl
section
variable {ops : Array Oper} {rest : List Oper} {a : Act} {Q : Exit → Act → World → Prop} {w : World}
/-- append(x, d), x a row of the call's own, d laid as a row of one. -/
theorem st_app1 {α : Type} {T E : TypeId} {k B : Nat} (hT : RowT T E k B) {R : Rel α} (hR : Rk k R) {A : Nat → Prop} {base b : Nat} {v : Value} {l : List α} {x : α} {cs : Array Value} {n : Nat} (hn : l.length = n)
    (H : OwnX k R A base E w v l) (hs : cs.size = k) (hbx : w.heap[b]? = some (.cells cs E (0, 0))) (S : Fr (fun b => A b ∨ v.ownBlock = some b) (fun y => R y (fun j => cs.getD j undef) x) w) (hb : (n + 1) * B ≤ 140737488355328) (hB : 1 ≤ B) (hbase : base ≤ w.heap.size) {dst : Option Nat} {p y : Operand} {ty : TypeId} {pos : String} {af : Array Edge} (hp : a.eval p = v) (hy : a.eval y = .slice (some ⟨b, 0, none⟩) 1 1)
    (K : ∀ (va : Option Addr) (vc : Nat) w', OwnX k R A base E w' (.slice va (n + 1) vc) (l ++ [x]) → w.grownBy w' v.ownBlock → ((Value.slice va (n + 1) vc).ownBlock = v.ownBlock ∨ (Value.slice va (n + 1) vc).ownBlock = some w.heap.size) → wpList Tryz.prog ops Q rest (a.put dst (.slice va (n + 1) vc)) w') :
    wpList Tryz.prog ops Q ({ dst := dst, op := .call { callee := .builtin .append, args := #[p, y], argTypes := #[T, T] }, type := ty, pos := pos, after := af, guard := none } :: rest) a w := by
  obtain ⟨i, z, i0, i1, i2, i3, i4⟩ := hT.info
  subst hn
  obtain ⟨F, hF, hE⟩ := H
  have hle : l.length + 1 ≤ maxLen := by
    have h := Nat.mul_le_mul_left (l.length + 1) hB
    have e : maxLen = 9223372036854775807 := rfl
    omega
  refine wpList_append_sl w rfl p y T rfl base E i z k B hT.sl i0 i1 i2 i3 i4 hT.pos v l.length _ hp hF _ 1 _ hy (SlAt.one hs hbx) (fun i j hi hj => hR.one _ _ _ S.here j hj) hle hb hbase fun v' w' g1 g2 g3 g4 => ?_
  obtain ⟨va, vc, rfl⟩ := own_slice g1
  exact K va vc w' (OwnX.app1 hT.pos g1 hE S g2 g3) g2 g3
end
end Go.Proofs.YtpccaifhcmcegaaGreat
end
