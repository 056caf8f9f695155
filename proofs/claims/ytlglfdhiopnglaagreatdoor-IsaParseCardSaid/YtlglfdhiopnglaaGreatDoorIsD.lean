/-
  isa as text: what a line reads as (plain).
-/
import Derived.Test.YtlglfdhiopnglaaGreatDoorIsN
namespace Go.Proofs.YtlglfdhiopnglaaGreatDoor
open Go.ChangeShapes Go.WideShapes Go.ChangeAt Go.RowKit
set_option linter.unusedVariables false
set_option linter.unusedSimpArgs false
set_option maxRecDepth 100000

/-- The operands of a line, read in their order. -/
def rdArgs : List Int → Ins → List (List UInt8) → Option Ins
  | [], x, _ => some x
  | k :: ks, x, r => if r.length = 0 then none else rdArgs ks (rdOpd x k r) r.tail
/-- The first opcode from i on whose word is s. -/
def fndG (s : ByteArray) : Nat → Nat → Option Nat
  | 0, _ => none
  | m + 1, i => if mnS i = s then some i else fndG s m (i + 1)
def rdStart (op : Nat) (ws : List (List UInt8)) : Ins := ((op : Int), 0, 0, 0, if op = 12 ∧ 1 < ws.length then (rdName (ws.getD 1 []), 1) else (0, 0), y0)
def rdEnd (s : List UInt8) : Option Ins → Ins × Bool
  | none => (i0, false)
  | some y => (y, wfB y && (lineL y == s))
def rdOp (s : List UInt8) (ws : List (List UInt8)) : Option Nat → Ins × Bool
  | none => (i0, false)
  | some op => rdEnd s (rdArgs (opsF (rdStart op ws)) (rdStart op ws) ws.tail)
def rdLine (s : ByteArray) : Ins × Bool := rdOp s.toList ((spl s).map (·.toList)) (fndG ((spl s).getD 0 ⟨#[]⟩) 17 0)

theorem R0 : R64 0 := ⟨by decide, by decide⟩
theorem R1 : R64 1 := ⟨by decide, by decide⟩
theorem atoiV_R (s : List UInt8) : R64 (atoiV s) := by
  have key : ∀ v, Lib.atoiAll s = .ok v → R64 v := fun v h => by
    unfold Lib.atoiAll at h
    cases s with
    | nil => cases h
    | cons c r =>
      simp only at h
      split at h
      · cases h
      · cases h
      · rename_i u _
        split at h
        · cases h
        · rename_i h1
          split at h
          · cases h
          · rename_i h2
            injection h with h
            subst h
            unfold R64
            by_cases hn : c.toNat = 45
            · rw [if_pos hn]
              have : ¬ 9223372036854775808 < u := fun h => h2 ⟨hn, h⟩
              omega
            · rw [if_neg hn]
              have : ¬ 9223372036854775808 ≤ u := fun h => h1 ⟨hn, h⟩
              omega
  unfold atoiV
  split
  · exact key _ (by assumption)
  · exact R0
  · unfold Lib.atoiSat
    split <;> exact ⟨by decide, by decide⟩
theorem rdNameG_R (s : List UInt8) : ∀ (m : Nat) (k : Int), 0 ≤ k → k + m ≤ 100 → 0 ≤ rdNameG s m k ∧ rdNameG s m k ≤ 100
  | 0, k, h0, h1 => ⟨by simp [rdNameG], by simp [rdNameG]⟩
  | m + 1, k, h0, h1 => by
    unfold rdNameG
    split
    · omega
    · exact rdNameG_R s m (k + 1) (by omega) (by omega)
theorem rdName_R (s : List UInt8) : R64 (rdName s) := by
  have := rdNameG_R s 12 4 (by decide) (by decide)
  unfold R64 rdName
  omega
theorem rdLast_R (f : Int → List UInt8) (s : List UInt8) : ∀ (m : Nat), 0 ≤ rdLast f s m ∧ rdLast f s m ≤ m
  | 0 => ⟨by simp [rdLast], by simp [rdLast]⟩
  | m + 1 => by
    unfold rdLast
    split
    · omega
    · have := rdLast_R f s m; omega
theorem rdType_R (l : List (List UInt8)) : TyR (rdType l) := by
  have lit : ∀ a b c d e : Int, R64 a → R64 b → R64 c → R64 d → R64 e → TyR (a, b, c, d, e) := fun a b c d e h1 h2 h3 h4 h5 j => by
    unfold typC
    split <;> assumption
  unfold rdType
  split
  · exact lit _ _ _ _ _ R1 R0 R0 R0 R0
  split
  · exact lit _ _ _ _ _ ⟨by decide, by decide⟩ R0 R0 R0 R0
  split
  · exact lit _ _ _ _ _ R0 R0 R0 R0 R0
  · have h1 := rdLast_R rndL (l.getD 3 []) 4
    have h2 := rdLast_R ovrL (l.getD 4 []) 2
    refine lit _ _ _ _ _ ⟨by decide, by decide⟩ (atoiV_R _) (atoiV_R _) ?_ ?_
    · unfold R64 rdRnd; omega
    · unfold R64 rdOvr; omega
theorem fprG_R (ng : Bool) (n d : Int × Bool) (hn : R64 n.1) (hd : R64 d.1) : R64 (fprG ng n d).1.1 ∧ R64 (fprG ng n d).1.2 := by
  have z : R64 ((0 : Int), (0 : Int)).1 ∧ R64 ((0 : Int), (0 : Int)).2 := ⟨R0, R0⟩
  have hw : R64 (if ng then wrap64 (-n.1) else n.1) := by
    split
    · exact wrap64_R _
    · exact hn
  unfold fprG
  generalize (if ng then wrap64 (-n.1) else n.1) = q at *
  split
  · exact z
  · split
    · exact z
    · exact ⟨hw, hd⟩
theorem fprF_R (s : List UInt8) : R64 (fprF s).1.1 ∧ R64 (fprF s).1.2 := by
  have z : R64 ((0 : Int), (0 : Int)).1 ∧ R64 ((0 : Int), (0 : Int)).2 := ⟨R0, R0⟩
  unfold fprF fprH
  split
  · exact z
  · split
    · exact z
    · exact fprG_R _ _ _ (bndF_R _) (bndF_R _)
theorem InR.mk {a b c d n e : Int} {t : Typ} (h0 : R64 a) (h1 : R64 b) (h2 : R64 c) (h3 : R64 d) (h4 : R64 n) (h5 : R64 e) (ht : TyR t) : InR (a, b, c, d, (n, e), t) := fun j => by
  have t0 := ht 0
  have t1 := ht 1
  have t2 := ht 2
  have t3 := ht 3
  have t4 := ht 4
  unfold insC
  split <;> first | assumption | exact t0 | exact t1 | exact t2 | exact t3 | exact t4
theorem InR.typ {x : Ins} (h : InR x) : TyR x.2.2.2.2.2 := fun j => by
  have t0 := h 6
  have t1 := h 7
  have t2 := h 8
  have t3 := h 9
  have t4 := h 10
  unfold typC
  split <;> first | exact t0 | exact t1 | exact t2 | exact t3 | exact t4
theorem rdOpd_R {x : Ins} (h : InR x) (k : Int) (l : List (List UInt8)) : InR (rdOpd x k l) := by
  unfold rdOpd
  split
  · exact InR.mk (h 0) (atoiV_R _) (h 2) (h 3) (h 4) (h 5) h.typ
  split
  · exact InR.mk (h 0) (h 1) (atoiV_R _) (h 3) (h 4) (h 5) h.typ
  split
  · exact InR.mk (h 0) (h 1) (h 2) (atoiV_R _) (h 4) (h 5) h.typ
  split
  · exact InR.mk (h 0) (h 1) (h 2) (h 3) (atoiV_R _) R1 h.typ
  split
  · exact InR.mk (h 0) (h 1) (h 2) (h 3) (fprF_R _).1 (fprF_R _).2 h.typ
  split
  · exact InR.mk (h 0) (h 1) (h 2) (h 3) (rdName_R _) R1 h.typ
  · exact InR.mk (h 0) (h 1) (h 2) (h 3) (h 4) (h 5) (rdType_R _)
theorem rdOpd_op (x : Ins) (k : Int) (l : List (List UInt8)) : (rdOpd x k l).1 = x.1 := by
  unfold rdOpd
  repeat' split
  all_goals rfl
theorem rdStart_R (op : Nat) (ho : op < 17) (ws : List (List UInt8)) : InR (rdStart op ws) := by
  have hy : TyR y0 := fun j => by unfold typC; split <;> exact R0
  unfold rdStart
  split
  · exact InR.mk ⟨by omega, by omega⟩ R0 R0 R0 (rdName_R _) R1 hy
  · exact InR.mk ⟨by omega, by omega⟩ R0 R0 R0 R0 R0 hy
theorem i0_R : InR i0 := InR.mk R0 R0 R0 R0 R0 R0 (fun j => by unfold typC; split <;> exact R0)
theorem rdArgs_R : ∀ (ks : List Int) (x : Ins) (r : List (List UInt8)) (y : Ins), InR x → rdArgs ks x r = some y → InR y ∧ y.1 = x.1
  | [], x, r, y, hx, h => by
    have : x = y := by simpa [rdArgs] using h
    subst this
    exact ⟨hx, rfl⟩
  | k :: ks, x, r, y, hx, h => by
    unfold rdArgs at h
    split at h
    · cases h
    · have := rdArgs_R ks _ _ y (rdOpd_R hx k r) h
      exact ⟨this.1, this.2.trans (rdOpd_op x k r)⟩
theorem fndG_lt (s : ByteArray) : ∀ (m i op : Nat), fndG s m i = some op → op < i + m
  | 0, i, op, h => by cases h
  | m + 1, i, op, h => by
    unfold fndG at h
    split at h
    · injection h with h; omega
    · have := fndG_lt s m (i + 1) op h; omega
theorem rdLine_R (s : ByteArray) : InR (rdLine s).1 := by
  unfold rdLine rdOp
  split
  · exact i0_R
  · rename_i op h
    have ho := fndG_lt _ 17 0 op h
    unfold rdEnd
    split
    · exact i0_R
    · rename_i y hy
      exact (rdArgs_R _ _ _ y (rdStart_R op (by omega) _) hy).1
/-- The operands' kinds lie in 1 .. 17. -/
theorem opsF_kinds (x : Ins) (hk : x.1.toNat < 17) : ∀ k ∈ opsF x, 1 ≤ k ∧ k ≤ 17 := by
  have h : ∀ i, i < 17 → ∀ k ∈ tabF i, k = 0 ∨ (1 ≤ k ∧ k ≤ 17) := by decide
  intro k hk'
  unfold opsF at hk'
  obtain ⟨h1, h2⟩ := List.mem_filter.1 hk'
  rcases h _ hk k h1 with rfl | h3
  · simp [skB] at h2
  · exact h3
end Go.Proofs.YtlglfdhiopnglaaGreatDoor
