/-
  The exhaustive search of the reference, plain: what it computes, and its values for short chains. No program is named here.
-/
import Derived.Test.YtdanjghefhjmcaaChDo5
import Derived.Test.YtdanjghefhjmcaaCh
import Derived.Test.YtdanjghefhjmcaaChMin3
namespace Go.Proofs.Ytdanjghefhjmcaa
open Go.ChangeShapes Go.WideShapes Go.ChangeAt Go.RowKit
set_option linter.unusedVariables false

/-- A state: now, left, the slots (-1: empty). -/
abbrev LSt := Int × Int × List Int
def toP (s : LSt) : PSt := { now := s.1, left := s.2.1, held := fun i => if 0 ≤ s.2.2.getD i (-1) then s.2.2.getD i (-1) else 0, full := fun i => decide (0 ≤ s.2.2.getD i (-1)) }
def ofP (k : Nat) (p : PSt) : LSt := (p.now, p.left, (List.range k).map fun i => if p.full i = true then p.held i else -1)
def doL (n k : Nat) (s : LSt) (op at' sl : Int) : Bool × LSt := ((stepF (toP s) op at' sl n k).1, ofP k (stepF (toP s) op at' sl n k).2)
def optS (r : Bool × LSt) : List LSt := if r.1 then [r.2] else []
def addL (l : List LSt) (s : LSt) : List LSt := if s ∈ l then l else l ++ [s]
def candS (n k : Nat) (s : LSt) (j : Nat) : List LSt := optS (doL n k s 2 s.1 j) ++ optS (doL n k s 3 (s.2.2.getD j 0) j)
def candK (n k : Nat) (s : LSt) (j : Nat) : List LSt := (List.range j).flatMap (candS n k s)
def succL (n k : Nat) (s : LSt) : List LSt := candK n k s k ++ ((doL n k s 3 0 (-1)).2 :: optS (doL n k s 4 s.2.1 0))
def freeL (n k : Nat) : Nat → List LSt → Nat → Option (List LSt)
  | 0, _, _ => none
  | f + 1, l, i => if i < l.length then freeL n k f ((succL n k (l.getD i (0, 0, []))).foldl addL l) (i + 1) else some l
def scanL (n k : Nat) : List LSt → List LSt → Option (List LSt)
  | [], nx => some nx
  | s :: r, nx => if s.2.1 = 0 then none else scanL n k r ((optS (doL n k s 1 (s.1 + 1) 0)).foldl addL nx)
def searchL (n k F : Nat) : Nat → Nat → List LSt → Option Nat
  | 0, _, _ => none
  | f + 1, c, l => match scanL n k l [] with
    | none => some c
    | some nx => match freeL n k F nx 0 with
      | none => none
      | some l' => searchL n k F f (c + 1) l'
def startL (n k : Nat) : LSt := (0, n, List.replicate k (-1))
def findL (n k : Nat) : Option Nat := match freeL n k 5000 [startL n k] 0 with
  | none => none
  | some l => searchL n k 5000 100 0 l

def enc (s : LSt) : Nat := (s.1 + 8 * s.2.1 + 64 * (s.2.2.getD 0 (-1) + 1) + 512 * (s.2.2.getD 1 (-1) + 1)).toNat
structure OkS (k : Nat) (s : LSt) : Prop where
  n0 : 0 ≤ s.1
  n1 : s.1 ≤ 7
  l0 : 0 ≤ s.2.1
  l1 : s.2.1 ≤ 7
  len : s.2.2.length = k
  sl : ∀ j, -1 ≤ s.2.2.getD j (-1) ∧ s.2.2.getD j (-1) ≤ 6
theorem two_eq {k : Nat} (hk : k ≤ 2) : ∀ {l l' : List Int}, l.length = k → l'.length = k → l.getD 0 (-1) = l'.getD 0 (-1) → l.getD 1 (-1) = l'.getD 1 (-1) → l = l'
  | [], [], _, _, _, _ => rfl
  | [x], [y], _, _, h, _ => by have : x = y := h; rw [this]
  | [x, x'], [y, y'], _, _, h, g => by
    have h1 : x = y := h
    have h2 : x' = y' := g
    rw [h1, h2]
  | [], _ :: _, h, g, _, _ => by simp at h g; omega
  | _ :: _, [], h, g, _, _ => by simp at h g; omega
  | [_], _ :: _ :: _, h, g, _, _ => by simp at h g; omega
  | _ :: _ :: _, [_], h, g, _, _ => by simp at h g; omega
  | _ :: _ :: _ :: _, _ :: _ :: _, h, g, _, _ => by simp at h; omega
  | _ :: _ :: _, _ :: _ :: _ :: _, h, g, _, _ => by simp at g; omega
theorem enc_inj {k : Nat} (hk : k ≤ 2) {s t : LSt} (hs : OkS k s) (ht : OkS k t) (h : enc s = enc t) : s = t := by
  obtain ⟨a, b, l⟩ := s
  obtain ⟨a', b', l'⟩ := t
  obtain ⟨h1, h2, h3, h4, h5, h6⟩ := hs
  obtain ⟨g1, g2, g3, g4, g5, g6⟩ := ht
  have p0 := h6 0
  have p1 := h6 1
  have q0 := g6 0
  have q1 := g6 1
  unfold enc at h
  dsimp only at *
  have e1 : a = a' := by omega
  have e2 : b = b' := by omega
  have e3 : l.getD 0 (-1) = l'.getD 0 (-1) := by omega
  have e4 : l.getD 1 (-1) = l'.getD 1 (-1) := by omega
  rw [e1, e2, two_eq hk h5 g5 e3 e4]
theorem enc_lt {k : Nat} {s : LSt} (hs : OkS k s) : enc s < 4096 := by
  have p0 := hs.sl 0
  have p1 := hs.sl 1
  have := hs.n0; have := hs.n1; have := hs.l0; have := hs.l1
  unfold enc; omega
theorem nodup_lt : ∀ (m : Nat) (l : List Nat), l.Nodup → (∀ x ∈ l, x < m) → l.length ≤ m
  | 0, l, _, h => by
    cases l with
    | nil => simp
    | cons x r => exact absurd (h x (by simp)) (by omega)
  | m + 1, l, hd, h => by
    have h1 := nodup_lt m (l.erase m) (hd.erase m) (fun x hx => by
      have hx' := (hd.mem_erase_iff).1 hx
      have := h x hx'.2
      have := hx'.1
      omega)
    by_cases hm : m ∈ l
    · rw [List.length_erase_of_mem hm] at h1; omega
    · rw [List.erase_of_not_mem hm] at h1; omega
theorem nodup_len {k : Nat} (hk : k ≤ 2) {l : List LSt} (h : l.Nodup) (ho : ∀ s ∈ l, OkS k s) : l.length ≤ 4096 := by
  have hm : (l.map enc).Nodup := by
    refine List.pairwise_map.2 ?_
    refine List.Pairwise.imp_of_mem (fun {a b} ha hb hne e => hne (enc_inj hk (ho a ha) (ho b hb) e)) h
  have := nodup_lt 4096 _ hm fun x hx => by
    obtain ⟨s, hs, rfl⟩ := List.mem_map.1 hx
    exact enc_lt (ho s hs)
  rwa [List.length_map] at this

theorem getD_neg {l : List Int} {j : Nat} (h : l.length ≤ j) : l.getD j (-1) = -1 := by
  rw [List.getD_eq_getElem?_getD, List.getElem?_eq_none h]; rfl
theorem ofP_get (k : Nat) (p : PSt) (j : Nat) : (ofP k p).2.2.getD j (-1) = if j < k then (if p.full j = true then p.held j else -1) else -1 := by
  unfold ofP
  by_cases h : j < k
  · rw [if_pos h, List.getD_eq_getElem?_getD, List.getElem?_map, List.getElem?_range h]; rfl
  · rw [if_neg h]; exact getD_neg (by simp; omega)
theorem ofP_ok {k : Nat} {p : PSt} (h1 : 0 ≤ p.now ∧ p.now ≤ 7) (h2 : 0 ≤ p.left ∧ p.left ≤ 7) (h3 : ∀ j, j < k → p.full j = true → -1 ≤ p.held j ∧ p.held j ≤ 6) : OkS k (ofP k p) := by
  refine ⟨h1.1, h1.2, h2.1, h2.2, by simp [ofP], fun j => ?_⟩
  rw [ofP_get]
  split
  · split
    · rename_i a b; exact h3 j a b
    · omega
  · omega
/-- A state that is within bounds, with now at most n. -/
def Ok2 (n k : Nat) (s : LSt) : Prop := OkS k s ∧ s.1 ≤ n
theorem do_ok {n k : Nat} (hn : n ≤ 5) {s : LSt} (hs : Ok2 n k s) (hsl : ∀ j, s.2.2.getD j (-1) ≤ n) (op at' sl : Int) (ha : op = 3 → at' ≤ n) : Ok2 n k (doL n k s op at' sl).2 ∧ ∀ j, (doL n k s op at' sl).2.2.2.getD j (-1) ≤ n := by
  obtain ⟨⟨h1, h2, h3, h4, h5, h6⟩, h7⟩ := hs
  unfold doL
  dsimp only
  have key : ∀ p : PSt, (0 ≤ p.now ∧ p.now ≤ n) → (0 ≤ p.left ∧ p.left ≤ 7) → (∀ j, p.full j = true → -1 ≤ p.held j ∧ p.held j ≤ n) → Ok2 n k (ofP k p) ∧ ∀ j, (ofP k p).2.2.getD j (-1) ≤ n := by
    intro p a b c
    refine ⟨⟨ofP_ok ⟨a.1, by omega⟩ b fun j _ hf => ⟨(c j hf).1, by have := (c j hf).2; omega⟩, a.2⟩, fun j => ?_⟩
    rw [ofP_get]
    split
    · split
      · rename_i x y; exact (c j y).2
      · omega
    · omega
  have hfull : ∀ j, (toP s).full j = true → -1 ≤ (toP s).held j ∧ (toP s).held j ≤ n := by
    intro j hf
    have := of_decide_eq_true hf
    have h9 := hsl j
    show -1 ≤ (if 0 ≤ s.2.2.getD j (-1) then _ else _) ∧ (if 0 ≤ s.2.2.getD j (-1) then _ else _) ≤ _
    rw [if_pos this]; omega
  have hnow : (toP s).now = s.1 := rfl
  have hleft : (toP s).left = s.2.1 := rfl
  have base := key (toP s) ⟨h1, h7⟩ ⟨h3, h4⟩ hfull
  unfold stepF
  split
  · split
    · exact base
    · rename_i hc
      refine key _ ⟨?_, ?_⟩ ⟨h3, h4⟩ hfull
      · show 0 ≤ at'; omega
      · show at' ≤ n; omega
  · split
    · split
      · exact base
      · rename_i hc
        refine key _ ⟨h1, h7⟩ ⟨h3, h4⟩ fun j hf => ?_
        show -1 ≤ (if j = sl.toNat then at' else (toP s).held j) ∧ (if j = sl.toNat then at' else (toP s).held j) ≤ n
        split
        · omega
        · rename_i hj
          have hf' : (if j = sl.toNat then true else (toP s).full j) = true := hf
          rw [if_neg hj] at hf'
          exact hfull j hf'
    · split
      · split
        · exact base
        · rename_i h31 h32 hop hc
          have ha' := ha hop
          refine key _ ⟨?_, ?_⟩ ⟨h3, h4⟩ hfull
          · show 0 ≤ at'
            by_cases hz : at' = 0
            · omega
            · have h10 : ¬ (¬ (0 ≤ sl ∧ sl < k) ∨ (toP s).full sl.toNat = false ∨ (toP s).held sl.toNat ≠ at') := fun e => hc ⟨fun e2 => hz e2.2, e⟩
              have h11 : (toP s).full sl.toNat = true := by
                cases hx : (toP s).full sl.toNat
                · exact absurd (Or.inr (Or.inl hx)) h10
                · rfl
              have h12 : (toP s).held sl.toNat = at' := by
                by_cases hx : (toP s).held sl.toNat = at'
                · exact hx
                · exact absurd (Or.inr (Or.inr hx)) h10
              have h13 := of_decide_eq_true h11
              rw [← h12]
              show 0 ≤ (if 0 ≤ s.2.2.getD sl.toNat (-1) then _ else _)
              rw [if_pos h13]; exact h13
          · show at' ≤ n; exact ha'
      · split
        · split
          · exact base
          · rename_i hc
            refine key _ ⟨h1, h7⟩ ⟨?_, ?_⟩ hfull
            · show 0 ≤ s.2.1 - 1; omega
            · show s.2.1 - 1 ≤ 7; omega
        · exact base

structure Ok3 (n k : Nat) (s : LSt) : Prop where
  ok : OkS k s
  now : s.1 ≤ n
  sl : ∀ j, s.2.2.getD j (-1) ≤ n
theorem do_ok3 {n k : Nat} (hn : n ≤ 5) {s : LSt} (h : Ok3 n k s) (op at' sl : Int) (ha : op = 3 → at' ≤ n) : Ok3 n k (doL n k s op at' sl).2 := by
  obtain ⟨⟨h1, h2⟩, h3⟩ := do_ok hn ⟨h.ok, h.now⟩ h.sl op at' sl ha
  exact ⟨h1, h2, h3⟩
theorem opt_ok {n k : Nat} {r : Bool × LSt} (h : Ok3 n k r.2) : ∀ t ∈ optS r, Ok3 n k t := fun t ht => by
  unfold optS at ht
  split at ht
  · rw [List.mem_singleton.1 ht]; exact h
  · cases ht
theorem cand_ok {n k : Nat} (hn : n ≤ 5) {s : LSt} (h : Ok3 n k s) (j : Nat) : ∀ t ∈ candK n k s j, Ok3 n k t := fun t ht => by
  obtain ⟨i, _, hi⟩ := List.mem_flatMap.1 ht
  unfold candS at hi
  rcases List.mem_append.1 hi with hi | hi
  · exact opt_ok (do_ok3 hn h _ _ _ (fun e => by omega)) t hi
  · refine opt_ok (do_ok3 hn h _ _ _ (fun e => ?_)) t hi
    by_cases hl : i < s.2.2.length
    · have := h.sl i
      rw [List.getD_eq_getElem?_getD, List.getElem?_eq_getElem hl] at this ⊢
      exact this
    · rw [List.getD_eq_getElem?_getD, List.getElem?_eq_none (by omega)]
      show (0 : Int) ≤ n; omega
theorem succ_ok {n k : Nat} (hn : n ≤ 5) {s : LSt} (h : Ok3 n k s) : ∀ t ∈ succL n k s, Ok3 n k t := fun t ht => by
  unfold succL at ht
  rcases List.mem_append.1 ht with ht | ht
  · exact cand_ok hn h k t ht
  · rcases List.mem_cons.1 ht with rfl | ht
    · exact do_ok3 hn h _ _ _ (fun e => by omega)
    · exact opt_ok (do_ok3 hn h _ _ _ (fun e => by omega)) t ht
theorem fold_ok {n k : Nat} : ∀ (ss l : List LSt), (∀ s ∈ ss, Ok3 n k s) → (∀ s ∈ l, Ok3 n k s) → ∀ s ∈ ss.foldl addL l, Ok3 n k s
  | [], l, _, h => h
  | x :: r, l, g, h => fold_ok r (addL l x) (fun s hs => g s (by simp [hs])) fun s hs => by
    unfold addL at hs
    split at hs
    · exact h s hs
    · rcases List.mem_append.1 hs with hs | hs
      · exact h s hs
      · rw [List.mem_singleton.1 hs]; exact g x (by simp)


theorem add_pre (l : List LSt) (s : LSt) : l <+: addL l s := by
  unfold addL; split
  · exact List.prefix_refl _
  · exact List.prefix_append _ _
theorem add_mem (l : List LSt) (s : LSt) : s ∈ addL l s := by
  unfold addL; split
  · assumption
  · simp
theorem mem_add {l : List LSt} {s t : LSt} (h : t ∈ addL l s) : t ∈ l ∨ t = s := by
  unfold addL at h; split at h
  · exact Or.inl h
  · rcases List.mem_append.1 h with h | h
    · exact Or.inl h
    · exact Or.inr (List.mem_singleton.1 h)
theorem add_nodup {l : List LSt} (s : LSt) (h : l.Nodup) : (addL l s).Nodup := by
  unfold addL; split
  · exact h
  · rename_i hn
    rw [List.nodup_append]
    exact ⟨h, by simp, fun a ha b hb e => hn (by rw [← List.mem_singleton.1 hb, ← e]; exact ha)⟩
theorem fold_pre : ∀ (ss l : List LSt), l <+: ss.foldl addL l
  | [], l => List.prefix_refl _
  | s :: r, l => (add_pre l s).trans (fold_pre r (addL l s))
theorem fold_mem : ∀ (ss l : List LSt), ∀ t ∈ ss, t ∈ ss.foldl addL l
  | [], _, t, h => by cases h
  | s :: r, l, t, h => by
    rcases List.mem_cons.1 h with rfl | h
    · exact (fold_pre r (addL l t)).subset (add_mem l t)
    · exact fold_mem r (addL l s) t h
theorem mem_fold : ∀ (ss l : List LSt), ∀ t ∈ ss.foldl addL l, t ∈ l ∨ t ∈ ss
  | [], _, t, h => Or.inl h
  | s :: r, l, t, h => by
    rcases mem_fold r (addL l s) t h with h | h
    · rcases mem_add h with h | h
      · exact Or.inl h
      · exact Or.inr (by simp [h])
    · exact Or.inr (by simp [h])
theorem fold_nodup : ∀ (ss l : List LSt), l.Nodup → (ss.foldl addL l).Nodup
  | [], _, h => h
  | s :: r, l, h => fold_nodup r _ (add_nodup s h)
theorem getD_mem3 {l : List LSt} {i : Nat} (h : i < l.length) : l.getD i (0, 0, []) ∈ l := by
  rw [List.getD_eq_getElem?_getD, List.getElem?_eq_getElem h]; exact List.getElem_mem h

structure FreeOk (n k : Nat) (l l' : List LSt) : Prop where
  sub : ∀ s ∈ l, s ∈ l'
  ok : ∀ s ∈ l', Ok3 n k s
  nodup : l'.Nodup
  closed : ∀ s ∈ l', ∀ t ∈ succL n k s, t ∈ l'
  only : ∀ (P : LSt → Prop), (∀ s ∈ l, P s) → (∀ s t, P s → t ∈ succL n k s → P t) → ∀ s ∈ l', P s
theorem free_ok {n k : Nat} (hn : n ≤ 5) (hk : k ≤ 2) : ∀ (f i : Nat) (l : List LSt), 4098 ≤ f + i → i ≤ l.length → l.Nodup → (∀ s ∈ l, Ok3 n k s) → (∀ j s, j < i → l[j]? = some s → ∀ t ∈ succL n k s, t ∈ l) → ∃ l', freeL n k f l i = some l' ∧ FreeOk n k l l'
  | 0, i, l, hf, hi, hd, ho, _ => by
    have := nodup_len hk hd (fun s hs => (ho s hs).ok)
    omega
  | f + 1, i, l, hf, hi, hd, ho, hc => by
    unfold freeL
    by_cases hlt : i < l.length
    · rw [if_pos hlt]
      obtain ⟨s, hs⟩ : ∃ s, l.getD i (0, 0, []) = s := ⟨_, rfl⟩
      have hm := getD_mem3 hlt
      rw [hs] at hm ⊢
      have hsi : l[i]? = some s := by
        rw [← hs, List.getD_eq_getElem?_getD, List.getElem?_eq_getElem hlt]; rfl
      have hpre := fold_pre (succL n k s) l
      obtain ⟨l', h1, h2⟩ := free_ok hn hk f (i + 1) ((succL n k s).foldl addL l) (by omega) (by have := hpre.length_le; omega) (fold_nodup _ _ hd) (fold_ok _ _ (succ_ok hn (ho s hm)) ho) (fun j u hj hu t ht => by
        have hjl : j < l.length := by omega
        have hu2 : l[j]? = some u := by
          obtain ⟨r, hr⟩ := hpre
          rw [← hr, List.getElem?_append_left hjl] at hu
          exact hu
        by_cases e : j = i
        · subst e
          rw [hsi] at hu2; cases hu2
          exact fold_mem _ _ t ht
        · exact hpre.subset (hc j u (by omega) hu2 t ht))
      refine ⟨l', h1, ⟨fun u hu => h2.sub u (hpre.subset hu), h2.ok, h2.nodup, h2.closed, fun P hP hcl u hu => h2.only P (fun v hv => ?_) hcl u hu⟩⟩
      rcases mem_fold _ _ v hv with h | h
      · exact hP v h
      · exact hcl s v (hP s hm) h
    · rw [if_neg hlt]
      have hil : i = l.length := by omega
      refine ⟨l, rfl, ⟨fun s hs => hs, ho, hd, fun s hs t ht => ?_, fun P hP _ => hP⟩⟩
      obtain ⟨j, hj, rfl⟩ := List.getElem_of_mem hs
      exact hc j _ (by omega) (List.getElem?_eq_getElem hj) t ht

def advS (n k : Nat) (s : LSt) : List LSt := optS (doL n k s 1 (s.1 + 1) 0)
theorem scan_ok {n k : Nat} (hn : n ≤ 5) : ∀ (l nx : List LSt), (∀ s ∈ l, Ok3 n k s) → (∀ s ∈ nx, Ok3 n k s) → nx.Nodup →
    (scanL n k l nx = none ∧ ∃ s ∈ l, s.2.1 = 0) ∨ (∃ nx', scanL n k l nx = some nx' ∧ (∀ s ∈ l, s.2.1 ≠ 0) ∧ nx'.Nodup ∧ (∀ s ∈ nx', Ok3 n k s) ∧ (∀ s ∈ nx, s ∈ nx') ∧ (∀ s ∈ l, ∀ t ∈ advS n k s, t ∈ nx') ∧ ∀ t ∈ nx', t ∈ nx ∨ ∃ s ∈ l, t ∈ advS n k s)
  | [], nx, _, h, hd => Or.inr ⟨nx, rfl, (fun s hs => by cases hs), hd, h, (fun s hs => hs), (fun s hs => by cases hs), fun t ht => Or.inl ht⟩
  | s :: r, nx, hl, h, hd => by
    unfold scanL
    by_cases h0 : s.2.1 = 0
    · rw [if_pos h0]; exact Or.inl ⟨rfl, s, by simp, h0⟩
    · rw [if_neg h0]
      have hs : ∀ t ∈ advS n k s, Ok3 n k t := opt_ok (do_ok3 hn (hl s (by simp)) 1 (s.1 + 1) 0 (fun e => by omega))
      rcases scan_ok hn r ((advS n k s).foldl addL nx) (fun t ht => hl t (by simp [ht])) (fold_ok _ _ hs h) (fold_nodup _ _ hd) with ⟨h1, u, hu, hu0⟩ | ⟨nx', h1, h2, h3, h4, h5, h6, h7⟩
      · exact Or.inl ⟨h1, u, by simp [hu], hu0⟩
      · refine Or.inr ⟨nx', h1, fun u hu => ?_, h3, h4, fun u hu => h5 u ((fold_pre _ _).subset hu), fun u hu t ht => ?_, fun t ht => ?_⟩
        · rcases List.mem_cons.1 hu with rfl | hu
          · exact h0
          · exact h2 u hu
        · rcases List.mem_cons.1 hu with rfl | hu
          · exact h5 t (fold_mem _ _ t ht)
          · exact h6 u hu t ht
        · rcases h7 t ht with h | ⟨u, hu, hut⟩
          · rcases mem_fold _ _ t h with h | h
            · exact Or.inl h
            · exact Or.inr ⟨s, by simp, h⟩
          · exact Or.inr ⟨u, by simp [hu], hut⟩

/-- What can be reached with c advances. -/
inductive Path (n k : Nat) : Nat → LSt → Prop
  | refl : Path n k 0 (startL n k)
  | free {c : Nat} {s t : LSt} : Path n k c s → t ∈ succL n k s → Path n k c t
  | adv {c : Nat} {s t : LSt} : Path n k c s → t ∈ advS n k s → Path n k (c + 1) t

theorem start_ok {n k : Nat} (hn : n ≤ 5) : Ok3 n k (startL n k) := by
  have hg : ∀ j, (startL n k).2.2.getD j (-1) = -1 := fun j => by
    by_cases h : j < k
    · show (List.replicate k (-1)).getD j (-1) = -1
      rw [List.getD_eq_getElem?_getD, List.getElem?_replicate, if_pos h]; rfl
    · exact getD_neg (by simp [startL]; omega)
  refine ⟨⟨by show (0 : Int) ≤ 0; omega, by show (0 : Int) ≤ 7; omega, by show (0 : Int) ≤ n; omega, by show (n : Int) ≤ 7; omega, by simp [startL], fun j => by rw [hg j]; omega⟩, by show (0 : Int) ≤ n; omega, fun j => by rw [hg j]; omega⟩

/-- A path moves as a plan's actions do. -/
def RunL (N S : Int) (st : PSt) (l : List Actn) (c : Nat) (st' : PSt) : Prop := ∀ r i k, planGo N S (l ++ r) i k st = planGo N S r (i + l.length) (k + c) st'
theorem planGo_cons (N S : Int) (a : Actn) (r : List Actn) (i k : Nat) (st : PSt) : planGo N S (a :: r) i k st = if (stepF st a.1 a.2.1 a.2.2 N S).1 = false then ((i : Int), 26) else planGo N S r (i + 1) (if a.1 = 1 then k + 1 else k) (stepF st a.1 a.2.1 a.2.2 N S).2 := rfl
theorem RunL.snoc {N S : Int} {st st' st'' : PSt} {l : List Actn} {c : Nat} (h : RunL N S st l c st') {a : Actn} (ha : stepF st' a.1 a.2.1 a.2.2 N S = (true, st'')) : RunL N S st (l ++ [a]) (c + if a.1 = 1 then 1 else 0) st'' := fun r i k => by
  rw [List.append_assoc, h]
  show planGo N S (a :: r) _ _ _ = _
  rw [planGo_cons, ha, if_neg (by simp), List.length_append]
  by_cases e : a.1 = 1
  · rw [if_pos e, if_pos e]; rfl
  · rw [if_neg e, if_neg e]; rfl
/-- The numbers of a state that a list can tell. -/
structure Norm (k : Nat) (p : PSt) : Prop where
  full : ∀ j, p.full j = true → j < k ∧ 0 ≤ p.held j
  empty : ∀ j, p.full j = false → p.held j = 0
theorem norm_eq {k : Nat} {p : PSt} (h : Norm k p) : toP (ofP k p) = p := by
  have e : ∀ j, (ofP k p).2.2.getD j (-1) = if p.full j = true then p.held j else -1 := fun j => by
    rw [ofP_get]
    by_cases hj : j < k
    · rw [if_pos hj]
    · rw [if_neg hj]
      cases hf : p.full j
      · rfl
      · exact absurd (h.full j hf).1 hj
  obtain ⟨a, b, hd, fl⟩ := p
  unfold toP
  have e1 : (fun i => if 0 ≤ (ofP k ⟨a, b, hd, fl⟩).2.2.getD i (-1) then (ofP k ⟨a, b, hd, fl⟩).2.2.getD i (-1) else 0) = hd := by
    funext j
    rw [e j]
    show (if 0 ≤ (if fl j = true then hd j else -1) then (if fl j = true then hd j else -1) else 0) = hd j
    cases hf : fl j
    · have h0 : hd j = 0 := h.empty j hf
      rw [h0]; rfl
    · have h0 : 0 ≤ hd j := (h.full j hf).2
      rw [if_pos rfl, if_pos h0]
  have e2 : (fun i => decide (0 ≤ (ofP k ⟨a, b, hd, fl⟩).2.2.getD i (-1))) = fl := by
    funext j
    rw [e j]
    show decide (0 ≤ (if fl j = true then hd j else -1)) = fl j
    cases hf : fl j
    · rfl
    · have h0 : 0 ≤ hd j := (h.full j hf).2
      rw [if_pos rfl]
      exact decide_eq_true h0
  rw [e1, e2]; rfl
theorem norm_toP {k : Nat} {s : LSt} (hs : s.2.2.length = k) : Norm k (toP s) := by
  refine ⟨fun j hf => ?_, fun j hf => ?_⟩
  · have h0 := of_decide_eq_true hf
    have hj : j < k := by
      by_cases hj : j < k
      · exact hj
      · rw [getD_neg (by omega)] at h0; omega
    refine ⟨hj, ?_⟩
    show 0 ≤ (if 0 ≤ s.2.2.getD j (-1) then _ else _)
    rw [if_pos h0]; exact h0
  · have h0 := of_decide_eq_false hf
    show (if 0 ≤ s.2.2.getD j (-1) then _ else _) = _
    rw [if_neg h0]
theorem norm_step {n k : Nat} {s : LSt} (hs : OkS k s) {op at' sl : Int} (h : (stepF (toP s) op at' sl n k).1 = true) : Norm k (stepF (toP s) op at' sl n k).2 := by
  have hN := norm_toP hs.len
  unfold stepF at h ⊢
  split
  · rename_i h1
    rw [if_pos h1] at h
    split
    · exact hN
    · exact ⟨hN.full, hN.empty⟩
  · rename_i h1
    rw [if_neg h1] at h
    split
    · rename_i h2
      split
      · exact hN
      · rename_i hc
        have hnow : (toP s).now = s.1 := rfl
        have h0 := hs.n0
        refine ⟨fun j hf => ?_, fun j hf => ?_⟩
        · show j < k ∧ 0 ≤ (if j = sl.toNat then at' else (toP s).held j)
          by_cases e : j = sl.toNat
          · rw [if_pos e]; omega
          · rw [if_neg e]
            have hf' : (if j = sl.toNat then true else (toP s).full j) = true := hf
            rw [if_neg e] at hf'
            exact hN.full j hf'
        · have hf' : (if j = sl.toNat then true else (toP s).full j) = false := hf
          by_cases e : j = sl.toNat
          · rw [if_pos e] at hf'; cases hf'
          · rw [if_neg e] at hf'
            show (if j = sl.toNat then at' else (toP s).held j) = 0
            rw [if_neg e]; exact hN.empty j hf'
    · split
      · split
        · exact hN
        · exact ⟨hN.full, hN.empty⟩
      · split
        · split
          · exact hN
          · exact ⟨hN.full, hN.empty⟩
        · exact hN
theorem do_run {n k : Nat} {s : LSt} (hs : OkS k s) {op at' sl : Int} (h : (doL n k s op at' sl).1 = true) : stepF (toP s) op at' sl n k = (true, toP (doL n k s op at' sl).2) := by
  have h' : (stepF (toP s) op at' sl n k).1 = true := h
  have := norm_eq (norm_step hs h')
  show _ = (true, toP (ofP k (stepF (toP s) op at' sl n k).2))
  rw [this]
  exact Prod.ext h' rfl
theorem toP_start (n k : Nat) : toP (startL n k) = st0 n := by
  have hg : ∀ j, (startL n k).2.2.getD j (-1) = -1 := fun j => by
    by_cases h : j < k
    · show (List.replicate k (-1)).getD j (-1) = -1
      rw [List.getD_eq_getElem?_getD, List.getElem?_replicate, if_pos h]; rfl
    · exact getD_neg (by simp [startL]; omega)
  unfold toP st0
  congr 1
  · funext j; rw [hg j]; rfl
  · funext j; rw [hg j]; rfl
theorem mem_opt {r : Bool × LSt} {t : LSt} (h : t ∈ optS r) : r.1 = true ∧ t = r.2 := by
  unfold optS at h; split at h
  · rename_i e; exact ⟨e, List.mem_singleton.1 h⟩
  · cases h
theorem rest0 (n k : Nat) (s : LSt) : (doL n k s 3 0 (-1)).1 = true := by
  show (stepF (toP s) 3 0 (-1) n k).1 = true
  unfold stepF
  rw [if_neg (by decide), if_neg (by decide), if_pos rfl, if_neg (fun h => h.1 ⟨rfl, rfl⟩)]
theorem succ_run {n k : Nat} {s t : LSt} (hs : OkS k s) (h : t ∈ succL n k s) : ∃ a : Actn, a.1 ≠ 1 ∧ stepF (toP s) a.1 a.2.1 a.2.2 n k = (true, toP t) := by
  unfold succL at h
  rcases List.mem_append.1 h with h | h
  · obtain ⟨j, _, hj⟩ := List.mem_flatMap.1 h
    unfold candS at hj
    rcases List.mem_append.1 hj with hj | hj
    · obtain ⟨e1, rfl⟩ := mem_opt hj
      exact ⟨(2, s.1, j), (by show (2 : Int) ≠ 1; decide), do_run hs e1⟩
    · obtain ⟨e1, rfl⟩ := mem_opt hj
      exact ⟨(3, s.2.2.getD j 0, j), (by show (3 : Int) ≠ 1; decide), do_run hs e1⟩
  · rcases List.mem_cons.1 h with rfl | h
    · exact ⟨(3, 0, -1), (by show (3 : Int) ≠ 1; decide), do_run hs (rest0 n k s)⟩
    · obtain ⟨e1, rfl⟩ := mem_opt h
      exact ⟨(4, s.2.1, 0), (by show (4 : Int) ≠ 1; decide), do_run hs e1⟩
theorem path_ok {n k : Nat} (hn : n ≤ 5) {c : Nat} {s : LSt} (h : Path n k c s) : Ok3 n k s := by
  induction h with
  | refl => exact start_ok hn
  | free _ ht ih => exact succ_ok hn ih _ ht
  | adv _ ht ih => exact opt_ok (do_ok3 hn ih 1 _ 0 (fun e => by omega)) _ ht
theorem path_run {n k : Nat} (hn : n ≤ 5) {c : Nat} {s : LSt} (h : Path n k c s) : ∃ l, RunL n k (st0 n) l c (toP s) := by
  induction h with
  | refl => exact ⟨[], fun r i k' => by rw [toP_start]; rfl⟩
  | free hp ht ih =>
    obtain ⟨l, hl⟩ := ih
    obtain ⟨a, h1, h2⟩ := succ_run (path_ok hn hp).ok ht
    have := hl.snoc h2
    rw [if_neg h1] at this
    exact ⟨_, this⟩
  | @adv c s t hp ht ih =>
    obtain ⟨l, hl⟩ := ih
    obtain ⟨e1, rfl⟩ := mem_opt ht
    have := hl.snoc (a := (1, s.1 + 1, 0)) (do_run (path_ok hn hp).ok e1)
    rw [if_pos rfl] at this
    exact ⟨_, this⟩
theorem path_cost {n k : Nat} (hn : n ≤ 5) (hk : k ≤ 2) {c : Nat} {s : LSt} (h : Path n k c s) (h0 : s.2.1 = 0) : costF n k ≤ c := by
  obtain ⟨l, hl⟩ := path_run hn h
  have e := hl [] 0 0
  rw [List.append_nil] at e
  have e2 : planGo n k l 0 0 (st0 n) = ((c : Int), 0) := by
    rw [e]
    unfold planGo
    have : (toP s).left = 0 := h0
    rw [if_neg (by rw [this]; simp), Nat.zero_add]
  have := Min.cost_le (n := n) (s := k) (by omega) (by omega) e2
  omega

/-- Explicit paths: (0, _) advance, (1, j) store, (2, j) restore, (3, _) to the start, (4, _) reverse. -/
def moveL (n k : Nat) (s : LSt) (m : Nat × Nat) : Option (Nat × LSt) :=
  if m.1 = 0 then (if (doL n k s 1 (s.1 + 1) 0).1 then some (1, (doL n k s 1 (s.1 + 1) 0).2) else none)
  else if m.1 = 1 then (if (doL n k s 2 s.1 m.2).1 && decide (m.2 < k) then some (0, (doL n k s 2 s.1 m.2).2) else none)
  else if m.1 = 2 then (if (doL n k s 3 (s.2.2.getD m.2 0) m.2).1 && decide (m.2 < k) then some (0, (doL n k s 3 (s.2.2.getD m.2 0) m.2).2) else none)
  else if m.1 = 3 then some (0, (doL n k s 3 0 (-1)).2)
  else (if (doL n k s 4 s.2.1 0).1 then some (0, (doL n k s 4 s.2.1 0).2) else none)
def walkL (n k : Nat) : List (Nat × Nat) → Nat → LSt → Option (Nat × LSt)
  | [], c, s => some (c, s)
  | m :: r, c, s => match moveL n k s m with
    | none => none
    | some (d, t) => walkL n k r (c + d) t
theorem opt_mem {r : Bool × LSt} (h : r.1 = true) : r.2 ∈ optS r := by unfold optS; rw [if_pos h]; simp
theorem move_path {n k c d : Nat} {s t : LSt} {m : Nat × Nat} (h : Path n k c s) (g : moveL n k s m = some (d, t)) : Path n k (c + d) t := by
  unfold moveL at g
  split at g
  · split at g
    · rename_i e; cases g; exact h.adv (opt_mem e)
    · cases g
  · split at g
    · split at g
      · rename_i e; cases g
        obtain ⟨e1, e2⟩ := Bool.and_eq_true_iff.1 e
        exact h.free (List.mem_append.2 (Or.inl (List.mem_flatMap.2 ⟨m.2, List.mem_range.2 (of_decide_eq_true e2), List.mem_append.2 (Or.inl (opt_mem e1))⟩)))
      · cases g
    · split at g
      · split at g
        · rename_i e; cases g
          obtain ⟨e1, e2⟩ := Bool.and_eq_true_iff.1 e
          exact h.free (List.mem_append.2 (Or.inl (List.mem_flatMap.2 ⟨m.2, List.mem_range.2 (of_decide_eq_true e2), List.mem_append.2 (Or.inr (opt_mem e1))⟩)))
        · cases g
      · split at g
        · cases g
          exact h.free (List.mem_append.2 (Or.inr (by simp)))
        · split at g
          · rename_i e; cases g
            exact h.free (List.mem_append.2 (Or.inr (List.mem_cons.2 (Or.inr (opt_mem e)))))
          · cases g
theorem walk_path {n k : Nat} : ∀ (ms : List (Nat × Nat)) (c d : Nat) (s t : LSt), Path n k c s → walkL n k ms c s = some (d, t) → Path n k d t
  | [], c, d, s, t, h, g => by cases g; exact h
  | m :: r, c, d, s, t, h, g => by
    unfold walkL at g
    cases hm : moveL n k s m with
    | none => rw [hm] at g; cases g
    | some p =>
      obtain ⟨e, u⟩ := p
      rw [hm] at g
      exact walk_path r (c + e) d u t (move_path h hm) g
def bestL (n k : Nat) : List (Nat × Nat) := match n, k with
  | 0, 0 => []
  | 0, 1 => []
  | 0, 2 => []
  | 1, 0 => [(4, 0)]
  | 1, 1 => [(4, 0)]
  | 1, 2 => [(4, 0)]
  | 2, 0 => [(0, 0), (4, 0), (3, 0), (4, 0)]
  | 2, 1 => [(0, 0), (4, 0), (3, 0), (4, 0)]
  | 2, 2 => [(0, 0), (4, 0), (3, 0), (4, 0)]
  | 3, 0 => [(0, 0), (0, 0), (4, 0), (3, 0), (0, 0), (4, 0), (3, 0), (4, 0)]
  | 3, 1 => [(0, 0), (1, 0), (0, 0), (4, 0), (2, 0), (4, 0), (3, 0), (4, 0)]
  | 3, 2 => [(0, 0), (1, 0), (0, 0), (4, 0), (2, 0), (4, 0), (3, 0), (4, 0)]
  | 4, 0 => [(0, 0), (0, 0), (0, 0), (4, 0), (3, 0), (0, 0), (0, 0), (4, 0), (3, 0), (0, 0), (4, 0), (3, 0), (4, 0)]
  | 4, 1 => [(0, 0), (0, 0), (1, 0), (0, 0), (4, 0), (2, 0), (4, 0), (3, 0), (0, 0), (4, 0), (3, 0), (4, 0)]
  | 4, 2 => [(0, 0), (1, 0), (0, 0), (1, 1), (0, 0), (4, 0), (2, 1), (4, 0), (2, 0), (4, 0), (3, 0), (4, 0)]
  | 5, 0 => [(0, 0), (0, 0), (0, 0), (0, 0), (4, 0), (3, 0), (0, 0), (0, 0), (0, 0), (4, 0), (3, 0), (0, 0), (0, 0), (4, 0), (3, 0), (0, 0), (4, 0), (3, 0), (4, 0)]
  | 5, 1 => [(0, 0), (0, 0), (1, 0), (0, 0), (0, 0), (4, 0), (2, 0), (0, 0), (4, 0), (2, 0), (4, 0), (3, 0), (0, 0), (4, 0), (3, 0), (4, 0)]
  | 5, 2 => [(0, 0), (0, 0), (1, 0), (0, 0), (1, 1), (0, 0), (4, 0), (2, 1), (4, 0), (2, 0), (4, 0), (3, 0), (0, 0), (4, 0), (3, 0), (4, 0)]
  | _, _ => []
def bestB (n k : Nat) : Bool := match walkL n k (bestL n k) 0 (startL n k) with
  | none => false
  | some (c, t) => decide (c = costF n k) && decide (t.2.1 = 0)
theorem best_b : ((List.range 6).all fun n => (List.range 3).all fun k => bestB n k) = true := by decide +kernel
theorem best_path {n k : Nat} (hn : n ≤ 5) (hk : k ≤ 2) : ∃ t, Path n k (costF n k) t ∧ t.2.1 = 0 := by
  have h1 := List.all_eq_true.1 best_b n (List.mem_range.2 (by omega))
  have h2 := List.all_eq_true.1 h1 k (List.mem_range.2 (by omega))
  unfold bestB at h2
  cases hw : walkL n k (bestL n k) 0 (startL n k) with
  | none => rw [hw] at h2; cases h2
  | some p =>
    obtain ⟨c, t⟩ := p
    rw [hw] at h2
    obtain ⟨e1, e2⟩ := Bool.and_eq_true_iff.1 h2
    have e1' := of_decide_eq_true e1
    have e2' := of_decide_eq_true e2
    refine ⟨t, ?_, e2'⟩
    rw [← e1']
    exact walk_path _ 0 c _ t .refl hw

structure Lvl (n k c : Nat) (l : List LSt) : Prop where
  ok : ∀ s ∈ l, Ok3 n k s
  path : ∀ s ∈ l, Path n k c s
  all : ∀ s, Path n k c s → s ∈ l
theorem search_ok {n k : Nat} (hn : n ≤ 5) (hk : k ≤ 2) : ∀ (f c : Nat) (l : List LSt), Lvl n k c l → c ≤ costF n k → costF n k < c + f → searchL n k 5000 f c l = some (costF n k)
  | 0, c, l, _, h1, h2 => by omega
  | f + 1, c, l, h, h1, h2 => by
    unfold searchL
    rcases scan_ok hn l [] h.ok (fun s hs => by cases hs) (by simp) with ⟨g1, s, hs, hs0⟩ | ⟨nx, g1, g2, g3, g4, g5, g6, g7⟩
    · rw [g1]
      have := path_cost hn hk (h.path s hs) hs0
      have e : c = costF n k := by omega
      rw [e]
    · rw [g1]
      dsimp only
      have hne : c ≠ costF n k := fun e => by
        obtain ⟨t, ht, ht0⟩ := best_path hn hk
        rw [← e] at ht
        exact g2 t (h.all t ht) ht0
      obtain ⟨l', k1, k2⟩ := free_ok hn hk 5000 0 nx (by omega) (by omega) g3 g4 (fun j s hj => by omega)
      rw [k1]
      refine search_ok hn hk f (c + 1) l' ⟨k2.ok, ?_, ?_⟩ (by omega) (by omega)
      · refine k2.only _ (fun s hs => ?_) (fun s t hs ht => hs.free ht)
        rcases g7 s hs with hx | ⟨u, hu, hus⟩
        · cases hx
        · exact (h.path u hu).adv hus
      · have key : ∀ c' s, Path n k c' s → c' = c + 1 → s ∈ l' := fun c' s hp => by
          induction hp with
          | refl => intro e; omega
          | free _ ht ih => intro e; exact k2.closed _ (ih e) _ ht
          | adv hp ht _ =>
            intro e
            have ec := Nat.succ.inj e
            subst ec
            exact k2.sub _ (g6 _ (h.all _ hp) _ ht)
        exact fun s hp => key _ s hp rfl
theorem free_start {n k : Nat} (hn : n ≤ 5) (hk : k ≤ 2) : ∃ l, freeL n k 5000 [startL n k] 0 = some l ∧ Lvl n k 0 l := by
  obtain ⟨l, h1, h2⟩ := free_ok hn hk 5000 0 [startL n k] (by omega) (by omega) (by simp) (fun s hs => by rw [List.mem_singleton.1 hs]; exact start_ok hn) (fun j s hj => by omega)
  refine ⟨l, h1, h2.ok, ?_, ?_⟩
  · exact h2.only _ (fun s hs => by rw [List.mem_singleton.1 hs]; exact .refl) (fun s t hs ht => hs.free ht)
  · have key : ∀ c' s, Path n k c' s → c' = 0 → s ∈ l := fun c' s hp => by
      induction hp with
      | refl => intro _; exact h2.sub _ (by simp)
      | free _ ht ih => intro e; exact h2.closed _ (ih e) _ ht
      | adv _ _ _ => intro e; omega
    exact fun s hp => key _ s hp rfl
theorem cost_small_b : ((List.range 6).all fun n => (List.range 3).all fun k => decide (costF n k ≤ 20)) = true := by decide +kernel
theorem cost_small {n k : Nat} (hn : n ≤ 5) (hk : k ≤ 2) : costF n k ≤ 20 := by
  have h1 := List.all_eq_true.1 cost_small_b n (List.mem_range.2 (by omega))
  have h2 := List.all_eq_true.1 h1 k (List.mem_range.2 (by omega))
  exact of_decide_eq_true h2
theorem find_cost {n k : Nat} (hn : n ≤ 5) (hk : k ≤ 2) : findL n k = some (costF n k) := by
  obtain ⟨l, h1, h2⟩ := free_start hn hk
  unfold findL
  rw [h1]
  exact search_ok hn hk 100 0 l h2 (by omega) (by have := cost_small hn hk; omega)
end Go.Proofs.Ytdanjghefhjmcaa
