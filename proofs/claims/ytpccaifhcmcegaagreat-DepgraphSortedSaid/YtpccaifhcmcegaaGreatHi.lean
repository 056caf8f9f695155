/-
  Joined by a program: DgRp, DgR, DgN, DgY, DgX.
-/
import Derived.Test.YtpccaifhcmcegaaGreatHh
import Derived.Test.YtpccaifhcmcegaaGreatHf
import Derived.Test.YtpccaifhcmcegaaGreatHc
import Derived.Great.BuildSlice

section
namespace Go.Proofs.YtpccaifhcmcegaaGreat
set_option linter.unusedSimpArgs false
open Go.ChangeShapes Go.WideShapes Go.ChangeAt Go.RowKit
set_option linter.unusedVariables false
set_option maxRecDepth 100000

/-- What can be reached. -/
inductive Rch (all : List ByteArray) (D : List Df) (fr : List ByteArray) : ByteArray → Prop where
  | base {x : ByteArray} : x ∈ fr → x ∈ all → Rch all D fr x
  | step {x y : ByteArray} : Rch all D fr x → y ∈ inF D x → y ∈ all → Rch all D fr y
theorem Rch.known {all : List ByteArray} {D : List Df} {fr : List ByteArray} {x : ByteArray} (h : Rch all D fr x) : x ∈ all := by
  cases h with
  | base _ h => exact h
  | step _ _ h => exact h
noncomputable def cdec (p : Prop) : Bool := @decide p (Classical.propDecidable p)
theorem cdec_iff {p : Prop} : cdec p = true ↔ p := @decide_eq_true_iff p (Classical.propDecidable p)
/-- The names that can be reached, in program order. -/
noncomputable def rchF (p : Pg) (fr : List ByteArray) : List ByteArray := (ordF p).filter (fun x => cdec (Rch (ordF p) p.defs fr x))
theorem rchF_len (p : Pg) (fr : List ByteArray) : (rchF p fr).length ≤ p.pars.length + p.defs.length := Nat.le_trans (List.length_filter_le _ _) (ordF_len p)
theorem rchF_mem {p : Pg} {fr : List ByteArray} {x : ByteArray} : x ∈ rchF p fr ↔ Rch (ordF p) p.defs fr x := by
  unfold rchF
  rw [List.mem_filter, cdec_iff]
  exact ⟨fun h => h.2, fun h => ⟨h.known, h⟩⟩
/-- A known name behind a list, if it is not on it. -/
def addK (all acc : List ByteArray) (y : ByteArray) : List ByteArray := if (has all y && !has acc y) = true then acc ++ [y] else acc
theorem addK_mem {all acc : List ByteArray} {y x : ByteArray} : x ∈ addK all acc y ↔ x ∈ acc ∨ (x = y ∧ x ∈ all) := by
  unfold addK
  split
  · rename_i h
    rw [Bool.and_eq_true] at h
    rw [List.mem_append, List.mem_singleton]
    constructor
    · rintro (h1 | rfl)
      · exact .inl h1
      · exact .inr ⟨rfl, has_iff.1 h.1⟩
    · rintro (h1 | ⟨rfl, _⟩)
      · exact .inl h1
      · exact .inr rfl
  · rename_i h
    constructor
    · exact .inl
    · rintro (h1 | ⟨rfl, h2⟩)
      · exact h1
      · cases e : has acc x
        · exact absurd (by rw [has_iff.2 h2, e]; rfl) h
        · exact has_iff.1 e
theorem foldK_mem {all : List ByteArray} {x : ByteArray} : ∀ {L acc : List ByteArray}, x ∈ L.foldl (addK all) acc ↔ x ∈ acc ∨ (x ∈ L ∧ x ∈ all)
  | [], acc => by simp
  | y :: r, acc => by
    rw [List.foldl_cons, foldK_mem (L := r), addK_mem, List.mem_cons]
    constructor
    · rintro ((h | ⟨h, h2⟩) | ⟨h, h2⟩)
      · exact .inl h
      · exact .inr ⟨.inl h, h2⟩
      · exact .inr ⟨.inr h, h2⟩
    · rintro (h | ⟨h | h, h2⟩)
      · exact .inl (.inl h)
      · exact .inl (.inr ⟨h, h2⟩)
      · exact .inr ⟨h, h2⟩
theorem addK_pre {all acc : List ByteArray} {y : ByteArray} : ∃ T, addK all acc y = acc ++ T := by
  unfold addK; split
  · exact ⟨[y], rfl⟩
  · exact ⟨[], (List.append_nil _).symm⟩
theorem foldK_pre {all : List ByteArray} : ∀ {L acc : List ByteArray}, ∃ T, L.foldl (addK all) acc = acc ++ T
  | [], acc => ⟨[], (List.append_nil _).symm⟩
  | y :: r, acc => by
    obtain ⟨T, hT⟩ := addK_pre (all := all) (acc := acc) (y := y)
    obtain ⟨T2, h2⟩ := foldK_pre (all := all) (L := r) (acc := addK all acc y)
    exact ⟨T ++ T2, by rw [List.foldl_cons, h2, hT, List.append_assoc]⟩
theorem addK_nd {all acc : List ByteArray} {y : ByteArray} (h : acc.Nodup) : (addK all acc y).Nodup := by
  unfold addK; split
  · rename_i hh
    rw [Bool.and_eq_true] at hh
    refine List.nodup_append.2 ⟨h, by simp, fun a ha b hb e => ?_⟩
    rw [List.mem_singleton] at hb
    subst hb; subst e
    have := has_iff.2 ha
    rw [this] at hh
    exact absurd hh.2 (by decide)
  · exact h
theorem foldK_nd {all : List ByteArray} : ∀ {L acc : List ByteArray}, acc.Nodup → (L.foldl (addK all) acc).Nodup
  | [], acc, h => h
  | y :: r, acc, h => foldK_nd (L := r) (addK_nd h)
theorem nodup_len : ∀ {S T : List ByteArray}, S.Nodup → (∀ x ∈ S, x ∈ T) → S.length ≤ T.length
  | [], _, _, _ => Nat.zero_le _
  | x :: r, T, h, hs => by
    have hx : x ∈ T := hs x List.mem_cons_self
    obtain ⟨A, B, rfl⟩ := List.append_of_mem hx
    have hr := nodup_len (S := r) (T := A ++ B) (List.nodup_cons.1 h).2 fun y hy => by
      have := hs y (List.mem_cons_of_mem _ hy)
      rw [List.mem_append, List.mem_cons] at this
      rw [List.mem_append]
      rcases this with h1 | h1 | h1
      · exact .inl h1
      · subst h1; exact absurd hy (List.nodup_cons.1 h).1
      · exact .inr h1
    rw [List.length_append] at hr
    rw [List.length_append, List.length_cons, List.length_cons]
    omega
/-- The search, i names done. -/
structure InvR (all : List ByteArray) (D : List Df) (fr S : List ByteArray) (i : Nat) : Prop where
  nd : S.Nodup
  ok : ∀ x ∈ S, Rch all D fr x
  st : ∀ x ∈ fr, x ∈ all → x ∈ S
  cl : ∀ j, j < i → ∀ h : j < S.length, ∀ y ∈ inF D S[j], y ∈ all → y ∈ S
theorem InvR.len {all : List ByteArray} {D : List Df} {fr S : List ByteArray} {i : Nat} (h : InvR all D fr S i) : S.length ≤ all.length := nodup_len h.nd fun x hx => (h.ok x hx).known
theorem InvR.start (all : List ByteArray) (D : List Df) (fr : List ByteArray) : InvR all D fr (fr.foldl (addK all) []) 0 :=
  ⟨foldK_nd List.nodup_nil, fun x hx => by
    rcases foldK_mem.1 hx with h | ⟨h1, h2⟩
    · cases h
    · exact .base h1 h2, fun x h1 h2 => foldK_mem.2 (.inr ⟨h1, h2⟩), fun j hj => absurd hj (Nat.not_lt_zero _)⟩
theorem InvR.next {all : List ByteArray} {D : List Df} {fr S : List ByteArray} {i : Nat} (h : InvR all D fr S i) (hi : i < S.length) : InvR all D fr ((inF D S[i]).foldl (addK all) S) (i + 1) := by
  obtain ⟨T, hT⟩ := foldK_pre (all := all) (L := inF D S[i]) (acc := S)
  refine ⟨foldK_nd h.nd, fun x hx => ?_, fun x h1 h2 => foldK_mem.2 (.inl (h.st x h1 h2)), fun j hj hjl y hy hya => ?_⟩
  · rcases foldK_mem.1 hx with h1 | ⟨h1, h2⟩
    · exact h.ok x h1
    · exact .step (h.ok _ (List.getElem_mem hi)) h1 h2
  · have hjS : j < S.length := by omega
    have e : ((inF D S[i]).foldl (addK all) S)[j] = S[j] := by
      simp only [hT]
      exact List.getElem_append_left hjS
    rw [e] at hy
    by_cases hji : j = i
    · subst hji; exact foldK_mem.2 (.inr ⟨hy, hya⟩)
    · exact foldK_mem.2 (.inl (h.cl j (by omega) hjS y hy hya))
theorem InvR.part {all : List ByteArray} {D : List Df} {fr S : List ByteArray} {i : Nat} (h : InvR all D fr S i) (hi : i < S.length) (k : Nat) : (((inF D S[i]).take k).foldl (addK all) S).length ≤ all.length :=
  nodup_len (foldK_nd h.nd) fun x hx => by
    rcases foldK_mem.1 hx with h1 | ⟨_, h2⟩
    · exact (h.ok x h1).known
    · exact h2
theorem foldK_len {all L : List ByteArray} : (L.foldl (addK all) []).length ≤ all.length :=
  nodup_len (foldK_nd List.nodup_nil) fun x hx => by
    rcases foldK_mem.1 hx with h1 | ⟨_, h2⟩
    · cases h1
    · exact h2
theorem InvR.done {p : Pg} {fr S : List ByteArray} (h : InvR (ordF p) p.defs fr S S.length) : (ordF p).filter (has S) = rchF p fr := by
  have key : ∀ x, Rch (ordF p) p.defs fr x → x ∈ S := fun x hx => by
    induction hx with
    | base h1 h2 => exact h.st _ h1 h2
    | step _ hy hk ih =>
      obtain ⟨j, hj, e⟩ := List.mem_iff_getElem.1 ih
      exact h.cl j hj hj _ (by rw [e]; exact hy) hk
  unfold rchF
  refine List.filter_congr fun x _ => ?_
  rw [Bool.eq_iff_iff, has_iff, cdec_iff]
  exact ⟨fun hx => h.ok x hx, key x⟩
theorem foldK_take {all L u : List ByteArray} {i n : Nat} (hn : L.length = n) (hi : i < n) : (L.take (i + 1)).foldl (addK all) u = addK all ((L.take i).foldl (addK all) u) (L[i]'(by omega)) := by
  subst hn
  rw [List.take_succ_eq_append_getElem hi, List.foldl_append]; rfl
theorem filter_take {L : List ByteArray} {f : ByteArray → Bool} {i n : Nat} (hn : L.length = n) (hi : i < n) : (L.take (i + 1)).filter f = if f (L[i]'(by omega)) = true then (L.take i).filter f ++ [L[i]'(by omega)] else (L.take i).filter f := by
  subst hn
  rw [List.take_succ_eq_append_getElem hi, List.filter_append]
  split
  · rename_i h; rw [List.filter_cons_of_pos h]; rfl
  · rename_i h; rw [List.filter_cons_of_neg h]; simp
end Go.Proofs.YtpccaifhcmcegaaGreat
end

section
namespace Go.Proofs.YtpccaifhcmcegaaGreat
set_option linter.unusedSimpArgs false
open Go.ChangeShapes Go.WideShapes Go.ChangeAt Go.RowKit
set_option linter.unusedVariables false
set_option maxRecDepth 100000

theorem Calls.strs {P : Program} {f : FuncId} {args : Array Value} {y : World} {B n : Nat} {l : List ByteArray} (h : Calls P f args y fun e x => ∃ u, e = .returned u ∧ Up y x ∧ LsN B x u l) (hn : l.length = n) :
    Calls P f args y fun e x => ∃ a c, e = .returned (.slice a n c) ∧ Up y x ∧ LsN B x (.slice a n c) l :=
  h.mono fun e x ⟨u, h1, h2, h3⟩ => by
    obtain ⟨a, c, rfl, _⟩ := h3.1.shape
    rw [hn] at h1 h3
    exact ⟨a, c, h1, h2, h3⟩

end Go.Proofs.YtpccaifhcmcegaaGreat
end

section
namespace Go.Proofs.YtpccaifhcmcegaaGreat
set_option linter.unusedSimpArgs false
open Go.ChangeShapes Go.WideShapes Go.ChangeAt Go.RowKit
set_option linter.unusedVariables false
set_option maxRecDepth 100000

theorem run_build1 {T E : TypeId} {k B : Nat} (hT : RowT T E k B) (hk : k ≤ 1000) {cs : Array Value} (hs : cs.size = k) (w : World) :
    (Instr.buildSlice T 1 #[(0, .agg cs)]).run Tryz.prog w = .ok (.slice (some ⟨w.heap.size, 0, none⟩) 1 1) (w.alloc (.cells cs E)) := by
  obtain ⟨i, z, i0, i1, i2, i3, i4⟩ := hT.info
  have hp := hT.pos
  refine run_buildSlice w T E 1 _ cs i z hT.sl i0 i1 (by rw [i2]; omega) (by rw [i2]; omega) ?_
  rw [i2]
  have h := Great.fill_whole (s := k) hp [.agg cs] ((Array.range (1 * k)).map (z.cells[· % z.cells.size]!)) (fun v hv => by rw [List.mem_singleton.1 hv]; exact hs) (by simp)
  simpa [Value.cells] using h
/-- A store of a whole struct into a box. -/
theorem run_put {P : Program} {T : TypeId} {k g : Nat} (hi : (P.info? T).map (·.size) = some k) {w : World} {t : TypeId} {Z cs : Array Value} (hb : BoxC w g t Z) (hz : Z.size = k) (hs : cs.size = k) (h1 : cs.all (·.oneCell') = true) :
    (Instr.storeAt T (.pointer (some ⟨g, 0, none⟩)) (.agg cs)).run P w = .ok () (w.setRow g cs) := by
  have := run_storeVar_row (P := P) w g t T Z cs hb (by rw [hi, hs]) (by rw [hz, hs]) h1
  simp only [Instr.storeAt, Instr.sureAddr, Sem.run_bind, Sem.run_pure, Result.andThen_ok, this]
theorem BoxC.row {w : World} {g : Nat} {t : TypeId} {Z : Array Value} (hb : BoxC w g t Z) (cs : Array Value) : BoxC (w.setRow g cs) g t cs := setRow_heap _ _ _ _ _ _ hb
theorem setRow_by (w : World) (g : Nat) (cs : Array Value) : w.grownBy (w.setRow g cs) (some g) := ⟨rfl, rfl, rfl, by simp, fun k hk hne => setRow_other _ _ _ _ (fun e => hne (congrArg some e))⟩
/-- One element, known by its block. -/
theorem LsAt.blk {α : Type} {k B : Nat} {R : Rel α} {x : World} {b : Nat} {E : TypeId} {cs : Array Value} {d : α} (hs : cs.size = k) (hB : B ≤ 140737488351232) (h : x.heap[b]? = some (.cells cs E (0, 0))) (hR : R x (fun j => cs.getD j undef) d) : LsAt k B R x (.slice (some ⟨b, 0, none⟩) 1 1) [d] := by
  refine ⟨⟨_, 1, rfl, Nat.le_refl _⟩, by simpa using hB, fun _ j => cs.getD j undef, ⟨⟨_, _, rfl, (fun h => nomatch h), fun y hy _ => ?_⟩, by simp⟩, fun i hi => ?_⟩
  · cases hy
    refine ⟨rfl, (Array.getElem?_eq_some_iff.1 h).1, fun i j hi hj => ?_⟩
    obtain rfl : i = 0 := by simpa using hi
    rw [cell_of_row _ _ _ _ _ _ h, Nat.zero_mul, Nat.add_zero, Nat.zero_add, Array.getD_eq_getD_getElem?, Array.getElem?_eq_getElem (by omega)]; rfl
  · obtain rfl : i = 0 := by simpa using hi
    exact hR
section
variable {ops : Array Oper} {rest : List Oper} {a : Act} {Q : Exit → Act → World → Prop} {w : World}
/-- A slice literal of one struct. -/
theorem st_build {T E : TypeId} {k B : Nat} (hT : RowT T E k B) (hk : k ≤ 1000) {cs : Array Value} (hs : cs.size = k) {dst : Option Nat} {x : Operand} {ty : TypeId} {pos : String} {af : Array Edge} (hx : a.eval x = .agg cs)
    (h : wpList Tryz.prog ops Q rest (a.put dst (.slice (some ⟨w.heap.size, 0, none⟩) 1 1)) (w.alloc (.cells cs E))) : wpList Tryz.prog ops Q ({ dst := dst, op := .buildSlice T 1 #[(0, x)], type := ty, pos := pos, after := af, guard := none } :: rest) a w :=
  wpList_plain rfl fun _ hK => by
    unfold Oper.wp execOp
    have e : (#[(0, x)].map fun (p : Nat × Operand) => (p.1, a.eval p.2)) = #[(0, Value.agg cs)] := by simp [hx]
    simp only [e, run_build1 hT hk hs, Sem.run_bind, Sem.run_pure, Result.andThen_ok]
    exact hK _ _ h
end
section
variable {ops : Array Oper} {w : World} {M : FuncId → Array Value → Value → World → Prop} {L : Act → (World → Prop) → Prop}
theorem wpMk_load (hL : AntiS (w := w) L) {rest : List Oper} {a : Act} {S : World → Prop} {T : TypeId} {p V : Value} (hrun : ∀ x, Up w x → (Instr.loadAt T p).run Tryz.prog x = .ok V x) {dst : Option Nat} {y : Operand} {ty : TypeId} {pos : String} {af : Array Edge} (hy : a.eval y = p)
    (h : wpMk Tryz.prog ops M w L rest (a.put dst V) (fun x => S x ∧ True)) : wpMk Tryz.prog ops M w L ({ dst := dst, op := .load T y, type := ty, pos := pos, after := af, guard := none } :: rest) a S :=
  wpMk_any hL (fun v _ => v = V) (fun _ _ _ h _ => h) rfl (fun x hx => ⟨V, x, by
    unfold execOp
    simp only [hy, hrun x hx, Sem.run_bind, Sem.run_pure, Result.andThen_ok], Up.refl x, rfl⟩) (fun v ⟨_, _, hv⟩ => by
    subst hv
    exact wpMk_anti hL _ _ _ _ (fun x _ ⟨h1, _⟩ => ⟨h1, trivial⟩) h)
theorem wpMk_build (hL : AntiS (w := w) L) {rest : List Oper} {a : Act} {S : World → Prop} {T E : TypeId} {k B : Nat} (hT : RowT T E k B) (hk : k ≤ 1000) {cs : Array Value} (hs : cs.size = k) {dst : Option Nat} {y : Operand} {ty : TypeId} {pos : String} {af : Array Edge} (hy : a.eval y = .agg cs)
    (h : ∀ b, w.heap.size ≤ b → wpMk Tryz.prog ops M w L rest (a.put dst (.slice (some ⟨b, 0, none⟩) 1 1)) (fun x => S x ∧ x.heap[b]? = some (.cells cs E (0, 0)))) : wpMk Tryz.prog ops M w L ({ dst := dst, op := .buildSlice T 1 #[(0, y)], type := ty, pos := pos, after := af, guard := none } :: rest) a S := by
  refine wpMk_any hL (fun v y => ∃ b, v = .slice (some ⟨b, 0, none⟩) 1 1 ∧ w.heap.size ≤ b ∧ y.heap[b]? = some (.cells cs E (0, 0))) (fun v x y ⟨b, h1, h2, h3⟩ hu => ⟨b, h1, h2, by rw [hu.heap b (Array.getElem?_eq_some_iff.1 h3).1]; exact h3⟩) rfl
    (fun x hx => ⟨_, _, by
      unfold execOp
      have e : (#[(0, y)].map fun (p : Nat × Operand) => (p.1, a.eval p.2)) = #[(0, Value.agg cs)] := by simp [hy]
      simp only [e, run_build1 hT hk hs, Sem.run_bind, Sem.run_pure, Result.andThen_ok], (Up.refl x).alloc _, x.heap.size, rfl, hx.size, heap_alloc_new x _⟩) (fun v ⟨y, _, b, h1, h2, _⟩ => ?_)
  subst h1
  refine wpMk_anti hL _ _ _ _ (fun x _ ⟨h3, b', h4, h5, h6⟩ => ?_) (h b h2)
  cases h4
  exact ⟨h3, h6⟩
end
end Go.Proofs.YtpccaifhcmcegaaGreat
end

section
namespace Go.Proofs.YtpccaifhcmcegaaGreat
set_option linter.unusedSimpArgs false
open Go.ChangeShapes Go.WideShapes Go.ChangeAt Go.RowKit
set_option linter.unusedVariables false
set_option maxRecDepth 100000

theorem Rk.const {α : Type} {k : Nat} {R : Rel α} (h : Rk k R) (w0 : World) : Rk k (fun _ => R w0) := ⟨fun _ _ _ _ h _ => h, fun _ f g x => h.congr w0 f g x, fun _ => h.one w0⟩
/-- A definition of a list whose elements read in an elder world. -/
theorem LsAt.dfc {N : Nat} {w0 w : World} {a : Option Addr} {n c : Nat} {l : List Df} (h : LsAt 22 272 (fun _ => defR N w0) w (.slice a n c) l) (i : Nat) (hi : i < l.length) :
    ∃ (g o : Nat) (cs : Array Value), a = some ⟨g, o, none⟩ ∧ g < w.heap.size ∧ CsAt 22 (defR N) w0 cs l[i] ∧ (∀ y, Up w y → (Instr.loadAt 50 (.pointer (some ⟨g, o + i * 22, none⟩))).run Tryz.prog y = .ok (.agg cs) y) ∧ cs.getD 0 undef = .string l[i].nm ∧ l[i].nm.size ≤ maxLen ∧ ∀ y, Up w y → y.cell? ⟨g, o + i * 22, none⟩ = some (.string l[i].nm) := by
  obtain ⟨g, o, cs, e, hg, hc, hr⟩ := h.row ((defR_k N).const w0) i hi
  have h0 : cs.getD 0 undef = .string l[i].nm := hc.2.1.1
  refine ⟨g, o, cs, e, hg, hc, fun y hy => run_def hc.1 (hr y hy), h0, hc.2.1.2, fun y hy => ?_⟩
  have := hr y hy 0 (.string l[i].nm) (by
    rw [← h0, Array.getElem?_toList, Array.getD_eq_getD_getElem?, Array.getElem?_eq_getElem (by rw [hc.1]; decide)]; rfl)
  exact this
/-- A definition reads no name of a list. -/
def rdyB (l : List Df) (d : Df) : Bool := !(l.any fun x => has (readsF d.body) x.nm)
theorem rdy_drop {l : List Df} {R : List ByteArray} {i n : Nat} (hn : l.length = n) (hi : i < n) : ((l.drop i).any fun x => has R x.nm) = (has R (l[i]'(by omega)).nm || (l.drop (i + 1)).any fun x => has R x.nm) := by
  rw [drop_eq hn hi, List.any_cons]

end Go.Proofs.YtpccaifhcmcegaaGreat
end

section
namespace Go.Proofs.YtpccaifhcmcegaaGreat
set_option linter.unusedSimpArgs false
open Go.ChangeShapes Go.WideShapes Go.ChangeAt Go.RowKit
set_option linter.unusedVariables false
set_option maxRecDepth 100000

/-- The reading turned. -/
theorem LsAt.turn {α : Type} {k B : Nat} {R S : Rel α} {w : World} {v : Value} {l : List α} (h : LsAt k B R w v l) (hRS : ∀ f e, R w f e → S w f e) : LsAt k B S w v l :=
  let ⟨h1, h2, F, h3, h4⟩ := h
  ⟨h1, h2, F, h3, fun i hi => hRS _ _ (h4 i hi)⟩
theorem defQ_one {N : Nat} {w0 : World} : ∀ (f : Nat → Value) x, defR N w0 f x → ∀ j, j < 22 → (f j).oneCell' = true := fun f x h => (defR_k N).one w0 f x h
/-- A row of definitions of the call's own. -/
abbrev OwnD (N : Nat) (w0 : World) (base : Nat) (w : World) (v : Value) (l : List Df) : Prop := OwnR 22 (defR N w0) base 50 w v l
theorem OwnD.ls {N : Nat} {w0 w : World} {base : Nat} {v : Value} {l : List Df} (h : OwnD N w0 base w v l) (hl : l.length ≤ 1000000) : LsAt 22 272 (fun _ => defR N w0) w v l := OwnL.ls h (by decide) (by omega)
theorem OwnD.done {N : Nat} {w0 w : World} {base : Nat} {v : Value} {l : List Df} (h : OwnD N w0 base w v l) (hl : l.length ≤ 1000000) (u : Up w0 w) : LsAt 22 272 (defR N) w v l := (OwnD.ls h hl).turn fun _ _ h => defR_up N _ _ _ _ h u
/-- A program without its dead definitions. -/
noncomputable def rmF (p : Pg) : Pg := { p with defs := p.defs.filter fun d => has (rchF p p.outs) d.nm }
theorem filterD_take {L : List Df} {f : Df → Bool} {i n : Nat} (hn : L.length = n) (hi : i < n) : (L.take (i + 1)).filter f = if f (L[i]'(by omega)) = true then (L.take i).filter f ++ [L[i]'(by omega)] else (L.take i).filter f := by
  subst hn
  rw [List.take_succ_eq_append_getElem hi, List.filter_append]
  split
  · rename_i h; rw [List.filter_cons_of_pos h]; rfl
  · rename_i h; rw [List.filter_cons_of_neg h]; simp
theorem ProgAt.mk {N : Nat} {w : World} {v0 v1 v2 v3 v4 : Value} {p : Pg} (h0 : LsAt 1 16 strR w v0 p.sizes) (h1 : LsAt 3 40 conR w v1 p.cons) (h2 : LsAt 7 80 parR w v2 p.pars) (h3 : LsAt 22 272 (defR N) w v3 p.defs) (h4 : LsAt 1 16 strR w v4 p.outs) : ProgAt N w (.agg #[v0, v1, v2, v3, v4]) p :=
  ⟨v0, v1, v2, v3, v4, rfl, h0, h1, h2, h3, h4⟩
/-- A store into another block of the call's own leaves a row as it is. -/
theorem own_setR {α : Type} {k : Nat} {R0 : (Nat → Value) → α → Prop} {base g : Nat} {e t : TypeId} {w : World} {v : Value} {l : List α} {cs : Array Value} (h : OwnR k R0 base e w v l) (hb : BoxC w g t cs) (hg : g < base) (o : Nat) (u : Value) : OwnR k R0 base e (w.setCell ⟨g, o, none⟩ u) v l := by
  have hgr : w.grownBy (w.setCell ⟨g, o, none⟩ u) (some g) := ⟨rfl, rfl, rfl, by simp [World.setCell], fun k hk hne => Below.heap_setCell _ _ _ _ (fun e => hne (congrArg some e))⟩
  exact own_keptL h hgr fun g' hg' e => by
    have := h.base _ hg'
    cases e
    omega
theorem OwnL.lt0 {α : Type} {k : Nat} {R : Rel α} {base : Nat} {e : TypeId} {w : World} {v : Value} {l : List α} (h : OwnL k R base e w v l) : ∀ g, v.ownBlock = some g → g < w.heap.size := fun g hg => by
  obtain ⟨F, h1, _⟩ := h
  rcases h1.2 with ⟨rfl, _⟩ | ⟨g', cap, cur, rfl, _, hh, _⟩
  · cases hg
  · have e : g' = g := by simpa [Value.ownBlock] using hg
    rw [← e]
    exact (Array.getElem?_eq_some_iff.1 hh).1
theorem OwnR.from {α : Type} {k : Nat} {R0 : (Nat → Value) → α → Prop} {base B : Nat} {e : TypeId} {w : World} {v : Value} {l : List α} (h : OwnR k R0 base e w v l) (hB : B ≤ base) : OwnR k R0 B e w v l := let ⟨F, h1, h2⟩ := h; ⟨F, own_from h1 B hB, h2⟩
theorem prog_info : (Tryz.prog.info? 27).map (·.size) = some 5 := by kernel_rfl

end Go.Proofs.YtpccaifhcmcegaaGreat
end
