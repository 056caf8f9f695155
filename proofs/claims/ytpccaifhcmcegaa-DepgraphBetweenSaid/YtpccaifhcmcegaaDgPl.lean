/-
  Plain laws: a program without its dead definitions has no dead ones; Between is empty exactly if there is no path.
-/
import Derived.Test.YtpccaifhcmcegaaDgX
import Derived.Test.YtpccaifhcmcegaaDgB
namespace Go.Proofs.Ytpccaifhcmcegaa
set_option linter.unusedSimpArgs false
open Go.ChangeShapes Go.WideShapes Go.ChangeAt Go.RowKit
set_option linter.unusedVariables false
set_option maxRecDepth 100000

theorem addU_mem {l : List ByteArray} {x s : ByteArray} : s ∈ addU l x ↔ s ∈ l ∨ s = x := by
  unfold addU
  split
  · rename_i h
    exact ⟨.inl, fun h1 => h1.elim id fun e => e ▸ has_iff.1 h⟩
  · rw [List.mem_append, List.mem_singleton]
theorem foldU_mem {s : ByteArray} : ∀ {m l : List ByteArray}, s ∈ m.foldl addU l ↔ s ∈ l ∨ s ∈ m
  | [], l => by simp
  | x :: r, l => by
    rw [List.foldl_cons, foldU_mem (m := r), addU_mem, List.mem_cons]
    exact ⟨fun h => h.elim (fun h => h.elim .inl fun e => .inr (.inl e)) fun h => .inr (.inr h), fun h => h.elim (fun h => .inl (.inl h)) fun h => h.elim (fun e => .inl (.inr e)) .inr⟩
theorem ordF_mem {p : Pg} {s : ByteArray} : s ∈ ordF p ↔ s ∈ p.pars.map (·.1) ∨ s ∈ p.defs.map (·.nm) := by
  unfold ordF
  rw [foldU_mem, foldU_mem]
  simp
/-- The first definition of a name stays the first if all of that name stay. -/
theorem inF_filter {f : Df → Bool} {s : ByteArray} : ∀ {l : List Df}, (∀ d ∈ l, d.nm = s → f d = true) → inF (l.filter f) s = inF l s
  | [], _ => rfl
  | d :: r, h => by
    have ih := inF_filter (f := f) (s := s) (l := r) fun x hx => h x (List.mem_cons_of_mem _ hx)
    by_cases e : d.nm = s
    · rw [List.filter_cons_of_pos (h d List.mem_cons_self e), inF, if_pos e, inF, if_pos e]
    · by_cases hf : f d = true
      · rw [List.filter_cons_of_pos hf, inF, if_neg e, ih, inF, if_neg e]
      · rw [List.filter_cons_of_neg hf, ih, inF, if_neg e]
theorem rm_known {p : Pg} {x : ByteArray} (h : Rch (ordF p) p.defs p.outs x) : x ∈ ordF (rmF p) := by
  have hk := ordF_mem.1 h.known
  rw [ordF_mem]
  rcases hk with hk | hk
  · exact .inl hk
  · refine .inr ?_
    obtain ⟨d, hd, rfl⟩ := List.mem_map.1 hk
    exact List.mem_map.2 ⟨d, List.mem_filter.2 ⟨hd, has_iff.2 (rchF_mem.2 h)⟩, rfl⟩
theorem rm_rch {p : Pg} {x : ByteArray} (h : Rch (ordF p) p.defs p.outs x) : Rch (ordF (rmF p)) (rmF p).defs (rmF p).outs x := by
  induction h with
  | base h1 h2 => exact .base h1 (rm_known (.base h1 h2))
  | @step x y h1 h2 h3 ih =>
    refine .step ih ?_ (rm_known (.step h1 h2 h3))
    show y ∈ inF (p.defs.filter fun d => has (rchF p p.outs) d.nm) x
    rw [inF_filter fun d _ e => has_iff.2 (rchF_mem.2 (e ▸ h1))]
    exact h2
theorem rmF_idem (p : Pg) : rmF (rmF p) = rmF p := by
  have h : (rmF p).defs.filter (fun d => has (rchF (rmF p) (rmF p).outs) d.nm) = (rmF p).defs := by
    refine List.filter_eq_self.2 fun d hd => ?_
    have h1 := (List.mem_filter.1 hd).2
    exact has_iff.2 (rchF_mem.2 (rm_rch (rchF_mem.1 (has_iff.1 h1))))
  show ({ rmF p with defs := _ } : Pg) = rmF p
  rw [h]
theorem rmF_defs_le (p : Pg) : (rmF p).defs.length ≤ p.defs.length := List.length_filter_le _ _
theorem rmF_mem {p : Pg} {d : Df} (h : d ∈ (rmF p).defs) : d ∈ p.defs := (List.mem_filter.1 h).1
theorem rch_trans {p : Pg} {fr : List ByteArray} {x y : ByteArray} (hx : Rch (ordF p) p.defs fr x) (h : Rch (ordF p) p.defs [x] y) : Rch (ordF p) p.defs fr y := by
  induction h with
  | base h1 h2 => rw [List.mem_singleton] at h1; subst h1; exact hx
  | step _ h2 h3 ih => exact .step ih h2 h3
/-- Between is not empty exactly if the one can be reached from the other. -/
theorem btwF_pos (p : Pg) (fr to : ByteArray) : decide (0 < (btwF p fr to).length) = has (rchF p [to]) fr := by
  rw [Bool.eq_iff_iff, decide_eq_true_eq, has_iff, rchF_mem, List.length_pos_iff_exists_mem]
  unfold btwF
  constructor
  · rintro ⟨x, hx⟩
    obtain ⟨h1, h2⟩ := List.mem_filter.1 hx
    exact rch_trans (rchF_mem.1 h1) (rchF_mem.1 (has_iff.1 h2))
  · intro h
    exact ⟨fr, List.mem_filter.2 ⟨rchF_mem.2 h, has_iff.2 (rchF_mem.2 (.base (List.mem_singleton.2 rfl) h.known))⟩⟩
end Go.Proofs.Ytpccaifhcmcegaa
