/-
  Appends to nothing inside a region that draws its order (see Mk), and what is left of such a region's rows. No program is named here.
-/
import Derived.Test.YtbpojmhgifgfdaaDoorMk
import Derived.Test.YtbpojmhgifgfdaaDoorSl
namespace Go.Proofs.YtbpojmhgifgfdaaDoor
open Go.ChangeShapes Go.WideShapes Go.ChangeAt Go.RowKit
set_option linter.unusedVariables false
set_option linter.unusedSimpArgs false

theorem own_up' {w w' : World} {base n k : Nat} {e : TypeId} {v : Value} {xs : List Value} (h : w.ownsRow base e k v n xs) (u : Up w w') : w'.ownsRow base e k v n xs := by
  refine ⟨h.1, ?_⟩
  rcases h.2 with h0 | ⟨g, cap, cur, hv, hb, hg, hr⟩
  · exact .inl h0
  · exact .inr ⟨g, cap, cur, hv, hb, (u.heap g (Array.getElem?_eq_some_iff.1 hg).1).trans hg, hr⟩
/-- A store into a block of another type leaves the row as it is. -/
theorem own_far {w : World} {base n k b : Nat} {e t : TypeId} {v : Value} {xs : List Value} {cs : Array Value} (h : w.ownsRow base e k v n xs) (hb : w.heap[b]? = some (.cells cs t (0, 0))) (hne : t ≠ e) (o : Nat) (u : Value) : (w.setCell ⟨b, o, none⟩ u).ownsRow base e k v n xs := by
  refine ⟨h.1, ?_⟩
  rcases h.2 with h0 | ⟨g, cap, cur, hv, hb', hg, hr⟩
  · exact .inl h0
  · refine .inr ⟨g, cap, cur, hv, hb', ?_, hr⟩
    have hgb : b ≠ g := fun e => by subst e; rw [hb] at hg; cases hg; exact hne rfl
    simp only [World.setCell, Array.getElem?_modify, hgb, if_false]
    exact hg
theorem set_heap {w : World} {b o : Nat} {cs : Array Value} {t : TypeId} (h : w.heap[b]? = some (.cells cs t (0, 0))) (u : Value) : (w.setCell ⟨b, o, none⟩ u).heap[b]? = some (.cells (cs.setIfInBounds o u) t (0, 0)) := by
  simp [World.setCell, Array.getElem?_modify, h]
theorem own_from {w : World} {base n k : Nat} {e : TypeId} {v : Value} {xs : List Value} (h : w.ownsRow base e k v n xs) (B : Nat) (hB : B ≤ base) : w.ownsRow B e k v n xs := by
  refine ⟨h.1, ?_⟩
  rcases h.2 with h0 | ⟨g, cap, cur, hv, hb, hr⟩
  · exact .inl h0
  · exact .inr ⟨g, cap, cur, hv, by omega, hr⟩

theorem wpMk_append {P : Program} {ops : Array Oper} {w : World} {M : FuncId → Array Value → Value → World → Prop} {L : Act → (World → Prop) → Prop} (hL : AntiS (w := w) L) {o : Oper} {rest : List Oper} {a : Act} {S : World → Prop} (s x : Operand) (t : TypeId)
    (ho : o.op = .call { callee := .builtin .append, args := #[s, x], argTypes := #[t, t] })
    (e : TypeId) (i : TypeInfo) (z : Value) (size bytes : Nat) (ht : P.underlying t = some (.slice e)) (hi : P.info? e = some i) (hz : i.zero = some z)
    (hsize : i.size = size) (hby : i.bytes = bytes) (hzs : z.cells.size = size) (hsz : 0 < size)
    (hs : a.eval s = .slice none 0 0) (xv : Value) (m : Nat) (f : Nat → Nat → Value) (hxv : a.eval x = xv) (hx : SlAt w xv m size f) (h1 : ∀ i j, i < m → j < size → (f i j).oneCell' = true)
    (h63 : m ≤ maxLen) (hbytes : m * bytes ≤ 140737488355328) (hw : Region.wanted o (yielded ops a.tmps) = true)
    (h : ∀ vb vd, (∃ y, Up w y ∧ y.ownsRow w.heap.size e size (.slice vb m vd) m (flat f m size)) → wpMk P ops M w L rest (a.put o.dst (.slice vb m vd)) (fun y => S y ∧ y.ownsRow w.heap.size e size (.slice vb m vd) m (flat f m size))) : wpMk P ops M w L (o :: rest) a S := by
  refine wpMk_any hL (fun v y => y.ownsRow w.heap.size e size v m (flat f m size)) (fun v x y h hu => own_up' h hu) hw (fun y hy => ?_) (fun v hv => ?_)
  · obtain ⟨v', w', hrun, h2, h3, h4, h5⟩ := run_append_sl (P := P) y y.heap.size t o.type e i z size bytes ht hi hz hsize hby hzs hsz (.slice none 0 0) 0 [] (World.ownsRow_nil _ _ _ _) xv m f (hx.up hy) h1 (by omega) (by rw [Nat.zero_add]; exact hbytes) (Nat.le_refl _)
    refine ⟨v', w', ?_, grown_up h3 (fun k hk => by cases hk), ?_⟩
    · unfold execOp
      simp only [ho, resolve, invoke, builtin, Sem.run_bind, Sem.run_pure, Result.andThen_ok, List.map_toArray, List.map_cons, List.map_nil, hs, hxv, hrun]
    · rw [Nat.zero_add, List.nil_append] at h2
      exact own_from h2 _ hy.size
  · obtain ⟨y, hy, hv⟩ := hv
    obtain ⟨vb, vd, rfl⟩ := own_slice hv
    exact h vb vd ⟨y, hy, hv⟩
end Go.Proofs.YtbpojmhgifgfdaaDoor
