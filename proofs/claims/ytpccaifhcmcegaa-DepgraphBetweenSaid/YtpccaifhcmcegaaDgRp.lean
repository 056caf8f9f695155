/-
  What Reachable computes: plain.
-/
import Derived.Test.YtpccaifhcmcegaaDgO
import Derived.Test.YtpccaifhcmcegaaDgP
namespace Go.Proofs.Ytpccaifhcmcegaa
set_option linter.unusedSimpArgs false
open Go.ChangeShapes Go.WideShapes Go.ChangeAt Go.RowKit
set_option linter.unusedVariables false
set_option maxRecDepth 100000

/-- What can be reached. -/
inductive Rch (all : List ByteArray) (D : List Df) (fr : List ByteArray) : ByteArray → Prop where
  | base {x : ByteArray} : x ∈ fr → x ∈ all → Rch all D fr x
  | step {x y : ByteArray} : Rch all D fr x → y ∈ inF D x → y ∈ all → Rch all D fr y
theorem Rch.known {all : List ByteArray} {D : List Df} {fr : List ByteArray} {x : ByteArray} (h : Rch all D fr x) : x ∈ all := by
  cases h with
  | base _ h => exact h
  | step _ _ h => exact h
noncomputable def cdec (p : Prop) : Bool := @decide p (Classical.propDecidable p)
theorem cdec_iff {p : Prop} : cdec p = true ↔ p := @decide_eq_true_iff p (Classical.propDecidable p)
/-- The names that can be reached, in program order. -/
noncomputable def rchF (p : Pg) (fr : List ByteArray) : List ByteArray := (ordF p).filter (fun x => cdec (Rch (ordF p) p.defs fr x))
theorem rchF_len (p : Pg) (fr : List ByteArray) : (rchF p fr).length ≤ p.pars.length + p.defs.length := Nat.le_trans (List.length_filter_le _ _) (ordF_len p)
theorem rchF_mem {p : Pg} {fr : List ByteArray} {x : ByteArray} : x ∈ rchF p fr ↔ Rch (ordF p) p.defs fr x := by
  unfold rchF
  rw [List.mem_filter, cdec_iff]
  exact ⟨fun h => h.2, fun h => ⟨h.known, h⟩⟩
/-- A known name behind a list, if it is not on it. -/
def addK (all acc : List ByteArray) (y : ByteArray) : List ByteArray := if (has all y && !has acc y) = true then acc ++ [y] else acc
theorem addK_mem {all acc : List ByteArray} {y x : ByteArray} : x ∈ addK all acc y ↔ x ∈ acc ∨ (x = y ∧ x ∈ all) := by
  unfold addK
  split
  · rename_i h
    rw [Bool.and_eq_true] at h
    rw [List.mem_append, List.mem_singleton]
    constructor
    · rintro (h1 | rfl)
      · exact .inl h1
      · exact .inr ⟨rfl, has_iff.1 h.1⟩
    · rintro (h1 | ⟨rfl, _⟩)
      · exact .inl h1
      · exact .inr rfl
  · rename_i h
    constructor
    · exact .inl
    · rintro (h1 | ⟨rfl, h2⟩)
      · exact h1
      · cases e : has acc x
        · exact absurd (by rw [has_iff.2 h2, e]; rfl) h
        · exact has_iff.1 e
theorem foldK_mem {all : List ByteArray} {x : ByteArray} : ∀ {L acc : List ByteArray}, x ∈ L.foldl (addK all) acc ↔ x ∈ acc ∨ (x ∈ L ∧ x ∈ all)
  | [], acc => by simp
  | y :: r, acc => by
    rw [List.foldl_cons, foldK_mem (L := r), addK_mem, List.mem_cons]
    constructor
    · rintro ((h | ⟨h, h2⟩) | ⟨h, h2⟩)
      · exact .inl h
      · exact .inr ⟨.inl h, h2⟩
      · exact .inr ⟨.inr h, h2⟩
    · rintro (h | ⟨h | h, h2⟩)
      · exact .inl (.inl h)
      · exact .inl (.inr ⟨h, h2⟩)
      · exact .inr ⟨h, h2⟩
theorem addK_pre {all acc : List ByteArray} {y : ByteArray} : ∃ T, addK all acc y = acc ++ T := by
  unfold addK; split
  · exact ⟨[y], rfl⟩
  · exact ⟨[], (List.append_nil _).symm⟩
theorem foldK_pre {all : List ByteArray} : ∀ {L acc : List ByteArray}, ∃ T, L.foldl (addK all) acc = acc ++ T
  | [], acc => ⟨[], (List.append_nil _).symm⟩
  | y :: r, acc => by
    obtain ⟨T, hT⟩ := addK_pre (all := all) (acc := acc) (y := y)
    obtain ⟨T2, h2⟩ := foldK_pre (all := all) (L := r) (acc := addK all acc y)
    exact ⟨T ++ T2, by rw [List.foldl_cons, h2, hT, List.append_assoc]⟩
theorem addK_nd {all acc : List ByteArray} {y : ByteArray} (h : acc.Nodup) : (addK all acc y).Nodup := by
  unfold addK; split
  · rename_i hh
    rw [Bool.and_eq_true] at hh
    refine List.nodup_append.2 ⟨h, by simp, fun a ha b hb e => ?_⟩
    rw [List.mem_singleton] at hb
    subst hb; subst e
    have := has_iff.2 ha
    rw [this] at hh
    exact absurd hh.2 (by decide)
  · exact h
theorem foldK_nd {all : List ByteArray} : ∀ {L acc : List ByteArray}, acc.Nodup → (L.foldl (addK all) acc).Nodup
  | [], acc, h => h
  | y :: r, acc, h => foldK_nd (L := r) (addK_nd h)
theorem nodup_len : ∀ {S T : List ByteArray}, S.Nodup → (∀ x ∈ S, x ∈ T) → S.length ≤ T.length
  | [], _, _, _ => Nat.zero_le _
  | x :: r, T, h, hs => by
    have hx : x ∈ T := hs x List.mem_cons_self
    obtain ⟨A, B, rfl⟩ := List.append_of_mem hx
    have hr := nodup_len (S := r) (T := A ++ B) (List.nodup_cons.1 h).2 fun y hy => by
      have := hs y (List.mem_cons_of_mem _ hy)
      rw [List.mem_append, List.mem_cons] at this
      rw [List.mem_append]
      rcases this with h1 | h1 | h1
      · exact .inl h1
      · subst h1; exact absurd hy (List.nodup_cons.1 h).1
      · exact .inr h1
    rw [List.length_append] at hr
    rw [List.length_append, List.length_cons, List.length_cons]
    omega
/-- The search, i names done. -/
structure InvR (all : List ByteArray) (D : List Df) (fr S : List ByteArray) (i : Nat) : Prop where
  nd : S.Nodup
  ok : ∀ x ∈ S, Rch all D fr x
  st : ∀ x ∈ fr, x ∈ all → x ∈ S
  cl : ∀ j, j < i → ∀ h : j < S.length, ∀ y ∈ inF D S[j], y ∈ all → y ∈ S
theorem InvR.len {all : List ByteArray} {D : List Df} {fr S : List ByteArray} {i : Nat} (h : InvR all D fr S i) : S.length ≤ all.length := nodup_len h.nd fun x hx => (h.ok x hx).known
theorem InvR.start (all : List ByteArray) (D : List Df) (fr : List ByteArray) : InvR all D fr (fr.foldl (addK all) []) 0 :=
  ⟨foldK_nd List.nodup_nil, fun x hx => by
    rcases foldK_mem.1 hx with h | ⟨h1, h2⟩
    · cases h
    · exact .base h1 h2, fun x h1 h2 => foldK_mem.2 (.inr ⟨h1, h2⟩), fun j hj => absurd hj (Nat.not_lt_zero _)⟩
theorem InvR.next {all : List ByteArray} {D : List Df} {fr S : List ByteArray} {i : Nat} (h : InvR all D fr S i) (hi : i < S.length) : InvR all D fr ((inF D S[i]).foldl (addK all) S) (i + 1) := by
  obtain ⟨T, hT⟩ := foldK_pre (all := all) (L := inF D S[i]) (acc := S)
  refine ⟨foldK_nd h.nd, fun x hx => ?_, fun x h1 h2 => foldK_mem.2 (.inl (h.st x h1 h2)), fun j hj hjl y hy hya => ?_⟩
  · rcases foldK_mem.1 hx with h1 | ⟨h1, h2⟩
    · exact h.ok x h1
    · exact .step (h.ok _ (List.getElem_mem hi)) h1 h2
  · have hjS : j < S.length := by omega
    have e : ((inF D S[i]).foldl (addK all) S)[j] = S[j] := by
      simp only [hT]
      exact List.getElem_append_left hjS
    rw [e] at hy
    by_cases hji : j = i
    · subst hji; exact foldK_mem.2 (.inr ⟨hy, hya⟩)
    · exact foldK_mem.2 (.inl (h.cl j (by omega) hjS y hy hya))
theorem InvR.part {all : List ByteArray} {D : List Df} {fr S : List ByteArray} {i : Nat} (h : InvR all D fr S i) (hi : i < S.length) (k : Nat) : (((inF D S[i]).take k).foldl (addK all) S).length ≤ all.length :=
  nodup_len (foldK_nd h.nd) fun x hx => by
    rcases foldK_mem.1 hx with h1 | ⟨_, h2⟩
    · exact (h.ok x h1).known
    · exact h2
theorem foldK_len {all L : List ByteArray} : (L.foldl (addK all) []).length ≤ all.length :=
  nodup_len (foldK_nd List.nodup_nil) fun x hx => by
    rcases foldK_mem.1 hx with h1 | ⟨_, h2⟩
    · cases h1
    · exact h2
theorem InvR.done {p : Pg} {fr S : List ByteArray} (h : InvR (ordF p) p.defs fr S S.length) : (ordF p).filter (has S) = rchF p fr := by
  have key : ∀ x, Rch (ordF p) p.defs fr x → x ∈ S := fun x hx => by
    induction hx with
    | base h1 h2 => exact h.st _ h1 h2
    | step _ hy hk ih =>
      obtain ⟨j, hj, e⟩ := List.mem_iff_getElem.1 ih
      exact h.cl j hj hj _ (by rw [e]; exact hy) hk
  unfold rchF
  refine List.filter_congr fun x _ => ?_
  rw [Bool.eq_iff_iff, has_iff, cdec_iff]
  exact ⟨fun hx => h.ok x hx, key x⟩
theorem foldK_take {all L u : List ByteArray} {i n : Nat} (hn : L.length = n) (hi : i < n) : (L.take (i + 1)).foldl (addK all) u = addK all ((L.take i).foldl (addK all) u) (L[i]'(by omega)) := by
  subst hn
  rw [List.take_succ_eq_append_getElem hi, List.foldl_append]; rfl
theorem filter_take {L : List ByteArray} {f : ByteArray → Bool} {i n : Nat} (hn : L.length = n) (hi : i < n) : (L.take (i + 1)).filter f = if f (L[i]'(by omega)) = true then (L.take i).filter f ++ [L[i]'(by omega)] else (L.take i).filter f := by
  subst hn
  rw [List.take_succ_eq_append_getElem hi, List.filter_append]
  split
  · rename_i h; rw [List.filter_cons_of_pos h]; rfl
  · rename_i h; rw [List.filter_cons_of_neg h]; simp
end Go.Proofs.Ytpccaifhcmcegaa
