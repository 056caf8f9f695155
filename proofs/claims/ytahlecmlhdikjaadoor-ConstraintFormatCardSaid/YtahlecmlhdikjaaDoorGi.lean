/-
  Joined by a program: CoAp, RowCp, LinC, CoIp, CoE, CoS.
-/
import Derived.Test.YtahlecmlhdikjaaDoorCoT
import Derived.Test.YtahlecmlhdikjaaDoorGf
import Derived.Laws.CopyOwn
import Derived.Test.YtahlecmlhdikjaaDoorGd
import Derived.Lib.Bytealg
import Derived.Test.YtahlecmlhdikjaaDoorGg

section
namespace Go.Proofs.YtahlecmlhdikjaaDoor
open Go.ChangeShapes Go.WideShapes Go.ChangeAt Go.RowKit
set_option linter.unusedVariables false
set_option linter.unusedSimpArgs false

/-- A form's monomials that do not lie in block b. -/
def PartN (b : Option Nat) (w : World) (v : Value) (l : List Mono) : Prop := Part w v l ∧ ∀ a n c, v = .slice (some a) n c → 0 < l.length → b ≠ some a.block
theorem PartN.up {b : Option Nat} {w w' : World} {v : Value} {l : List Mono} (h : PartN b w v l) (u : Up w w') : PartN b w' v l := ⟨h.1.up u, h.2⟩
theorem PartN.grown {v6 v1 : Value} {w w' : World} {v : Value} {l : List Mono} (h : PartN v6.ownBlock w v l) (g : w.grownBy w' v6.ownBlock) (ha : v1.ownBlock = v6.ownBlock ∨ v1.ownBlock = some w.heap.size) : PartN v1.ownBlock w' v l := by
  obtain ⟨⟨⟨⟨a, cap, hv, h0, hc⟩, hm⟩, h2, h3⟩, hne⟩ := h
  refine ⟨⟨⟨⟨a, cap, hv, h0, fun y hy hl => ?_⟩, hm⟩, h2, h3⟩, fun a' n c e hl => ?_⟩
  · obtain ⟨g1, g2, g3⟩ := hc y hy hl
    refine ⟨g1, Nat.lt_of_lt_of_le g2 g.size, fun i j hi hj => ?_⟩
    rw [← g3 i j hi hj]
    exact World.cell?_of_block (g.block _ g2 (fun e => hne y _ _ (by rw [hv, hy]) hl e.symm))
  · rcases ha with ha | ha
    · rw [ha]; exact hne a' n c e hl
    · rw [ha]
      intro hb
      rw [hv] at e
      cases e
      obtain ⟨g1, g2, g3⟩ := hc a' rfl hl
      have hb' := Option.some.inj hb
      omega
theorem own_blk {w : World} {base n k : Nat} {e : TypeId} {v : Value} {xs : List Value} (h : w.ownsRow base e k v n xs) : ∀ g, v.ownBlock = some g → g < w.heap.size := fun g hg => by
  rcases h.2 with ⟨rfl, _⟩ | ⟨g', cap, cur, rfl, _, hr, _⟩
  · cases hg
  · cases hg; exact (Array.getElem?_eq_some_iff.1 hr).1
theorem own_base {w : World} {base n k : Nat} {e : TypeId} {v : Value} {xs : List Value} (h : w.ownsRow base e k v n xs) : ∀ g, v.ownBlock = some g → base ≤ g := fun g hg => by
  rcases h.2 with ⟨rfl, _⟩ | ⟨g', cap, cur, rfl, hb, _⟩
  · cases hg
  · cases hg; exact hb
theorem PartN.fresh {b : Option Nat} {w x : World} {v : Value} {l : List Mono} (hp : Part w v l) (hf : FreshV x v) (hb : ∀ g, b = some g → g < x.heap.size) : PartN b w v l :=
  ⟨hp, fun a n c e _ h => Nat.lt_irrefl _ (Nat.lt_of_lt_of_le (hb _ h) (hf a n c e))⟩
/-- Rows behind one another. -/
theorem flat_snoc {f g h : Nat → Nat → Value} {n k : Nat} (hk : 0 < k) (h1 : ∀ i j, i < n → j < k → h i j = f i j) (h2 : ∀ j, j < k → h n j = g 0 j) : flat f n k ++ flat g 1 k = flat h (n + 1) k := by
  refine List.ext_getElem? fun q => ?_
  have hl1 : (flat f n k).length = n * k := flat_length _ _ _
  have hl2 : (flat h (n + 1) k).length = n * k + k := by rw [flat_length, Nat.add_mul]; omega
  have hl3 : (flat g 1 k).length = k := by rw [flat_length]; omega
  rcases Nat.lt_or_ge q (n * k) with hq | hq
  · rw [List.getElem?_append_left (by rw [hl1]; exact hq)]
    have hi : q / k < n := Nat.div_lt_of_lt_mul (by rw [Nat.mul_comm]; exact hq)
    have hj : q % k < k := Nat.mod_lt _ hk
    have e : q = q / k * k + q % k := by rw [Nat.mul_comm]; exact (Nat.div_add_mod q k).symm
    rw [e, flat_get _ _ _ _ _ hi hj, flat_get _ _ _ _ _ (by omega) hj, h1 _ _ hi hj]
  · rw [List.getElem?_append_right (by rw [hl1]; exact hq), hl1]
    rcases Nat.lt_or_ge (q - n * k) k with hj | hj
    · have e1 : q - n * k = 0 * k + (q - n * k) := by omega
      have e2 : q = n * k + (q - n * k) := by omega
      rw [e1, flat_get _ _ _ _ _ (by omega) hj]
      conv => rhs; rw [e2]
      rw [flat_get _ _ _ _ _ (by omega) hj, h2 _ hj]
    · rw [List.getElem?_eq_none (by omega), List.getElem?_eq_none (by omega)]
theorem flat_congr {f h : Nat → Nat → Value} {n k : Nat} (hk : 0 < k) (h1 : ∀ i j, i < n → j < k → h i j = f i j) : flat f n k = flat h n k := by
  unfold flat
  refine List.map_congr_left fun q hq => ?_
  have hq' := List.mem_range.1 hq
  exact (h1 _ _ (Nat.div_lt_of_lt_mul (by rw [Nat.mul_comm]; exact hq')) (Nat.mod_lt _ hk)).symm

/-- A tightened constraint and its kind. -/
abbrev TCon := Con × Int
abbrev t0 : TCon := (c0, 0)
def tcF (ts : List TCon) (vs : Nat → Value) (i j : Nat) : Value := match j with
  | 0 => .int .i64 (ts.getD i t0).1.1
  | 1 => vs i
  | 2 => .bool (ts.getD i t0).1.2.2
  | _ => .int .i64 (ts.getD i t0).2
def TsAt (w : World) (v : Value) (ts : List TCon) : Prop :=
  ∃ vs : Nat → Value, SlAt w v ts.length 4 (tcF ts vs) ∧ ∀ i, i < ts.length → Part w (vs i) (ts.getD i t0).1.2.1 ∧ In64 (ts.getD i t0).1.1
def allF : List Con → List TCon → List TCon × Int
  | [], acc => (acc, 0)
  | c :: r, acc => if (tightF c).2.2 ≠ 0 then ([], (tightF c).2.2) else allF r (acc ++ [((tightF c).1, (tightF c).2.1)])
theorem allF_cons (c : Con) (r : List Con) (acc : List TCon) : allF (c :: r) acc = if (tightF c).2.2 ≠ 0 then ([], (tightF c).2.2) else allF r (acc ++ [((tightF c).1, (tightF c).2.1)]) := rfl

theorem tight_in64 {c : Con} (h : In64 c.1) (hl : ∀ m ∈ c.2.1, In64 m.2) : In64 (tightF c).1.1 := by
  have hz : In64 0 := ⟨by decide, by decide⟩
  have h1 : In64 (-1) := ⟨by decide, by decide⟩
  unfold tightF
  by_cases hq : okL c.2.1 = true
  · rw [if_pos hq]
    by_cases h0 : c.2.1.length = 0
    · rw [if_pos h0]; split
      · exact hz
      · exact h1
    · rw [if_neg h0]
      have hg : (0 : Int) < (gcdL c.2.1 : Int) := by have := gcd_pos hq h0; omega
      have hd := div_in64 hg h
      split
      · exact h1
      · split
        · split
          · rename_i h3
            have h4 := (Bool.and_eq_true_iff.1 h3).1
            simp at h4
            obtain ⟨d0, d1⟩ := hd
            exact ⟨by show _ ≤ -_; omega, by show -_ ≤ _; omega⟩
          · exact hz
        · exact hd
  · rw [if_neg hq]; exact hz
theorem tight_len (c : Con) : (tightF c).1.2.1.length ≤ c.2.1.length := by
  unfold tightF
  split
  · split
    · split <;> simp
    · split
      · simp
      · split
        · split <;> simp [negL, divL]
        · simp [divL]
  · simp
theorem ts_getD (ts : List TCon) (t : TCon) (j : Nat) (hj : j < ts.length + 1) : (ts ++ [t]).getD j t0 = if j = ts.length then t else ts.getD j t0 := by
  rw [List.getD_eq_getElem?_getD, List.getD_eq_getElem?_getD]
  by_cases h : j = ts.length
  · subst h; rw [if_pos rfl, List.getElem?_append_right (Nat.le_refl _), Nat.sub_self]; rfl
  · rw [if_neg h, List.getElem?_append_left (by omega)]
theorem tc_snoc (ts : List TCon) (t : TCon) (vs : Nat → Value) (v : Value) (i : Nat) (hi : ts.length = i) : flat (tcF ts vs) i 4 ++ flat (tcF [t] fun _ => v) 1 4 = flat (tcF (ts ++ [t]) (fun j => if j = i then v else vs j)) (i + 1) 4 := by
  subst hi
  refine flat_snoc (by omega) (fun i' j h1 h2 => ?_) (fun j h2 => ?_)
  · have hd := ts_getD ts t i' (by omega)
    rw [if_neg (by omega)] at hd
    have hne : ¬ i' = ts.length := by omega
    unfold tcF
    rcases (by omega : j = 0 ∨ j = 1 ∨ j = 2 ∨ j = 3) with rfl | rfl | rfl | rfl <;> simp only [hd, hne, if_false]
  · have hd := ts_getD ts t ts.length (by omega)
    rw [if_pos rfl] at hd
    unfold tcF
    rcases (by omega : j = 0 ∨ j = 1 ∨ j = 2 ∨ j = 3) with rfl | rfl | rfl | rfl <;> simp only [hd, if_true] <;> rfl
theorem tparts_snoc {x w1 : World} {v6 v1 v : Value} {ts : List TCon} {t : TCon} {vs : Nat → Value} {i : Nat} (hi : ts.length = i) (hps : ∀ j, j < i → PartN v6.ownBlock x (vs j) (ts.getD j t0).1.2.1 ∧ In64 (ts.getD j t0).1.1) (hp : PartN v6.ownBlock x v t.1.2.1) (hK : In64 t.1.1)
    (g : x.grownBy w1 v6.ownBlock) (ha : v1.ownBlock = v6.ownBlock ∨ v1.ownBlock = some x.heap.size) : ∀ j, j < i + 1 → PartN v1.ownBlock w1 (if j = i then v else vs j) ((ts ++ [t]).getD j t0).1.2.1 ∧ In64 ((ts ++ [t]).getD j t0).1.1 := fun j hj => by
  subst hi
  rw [ts_getD ts t j hj]
  by_cases h : j = ts.length
  · rw [if_pos h, if_pos h]; exact ⟨hp.grown g ha, hK⟩
  · rw [if_neg h, if_neg h]
    obtain ⟨h1, h2⟩ := hps j (by omega)
    exact ⟨h1.grown g ha, h2⟩
end Go.Proofs.YtahlecmlhdikjaaDoor
end

section
namespace Go.Proofs.YtahlecmlhdikjaaDoor
open Go.ChangeShapes Go.WideShapes Go.ChangeAt Go.RowKit
set_option linter.unusedVariables false
set_option linter.unusedSimpArgs false

theorem run_copy_rowk {P : Program} (w : World) (dT sT ty elem : TypeId) (k g o dLen dCap : Nat) (a : Addr) (sLen sCap : Nat) (cur : Array Value) (t : TypeId) (cs : List Value)
    (hu : P.underlying dT = some (.slice elem)) (hs : (P.info? elem).map (·.size) = some k)
    (hg : w.heap[g]? = some (.cells cur t (0, 0))) (hn : cs.length = Nat.min sLen dLen * k)
    (hsrc : ∀ j v, cs[j]? = some v → w.cell? (a.add j) = some v) (hfit : o + cs.length ≤ cur.size) (h1 : ∀ v ∈ cs, v.oneCell' = true) :
    (Builtin.copy_ #[dT, sT] ty #[.slice (some ⟨g, o, none⟩) dLen dCap, .slice (some a) sLen sCap]).run P w =
      .ok (goInt (Nat.min sLen dLen)) (w.setRow g (cur.toList.take o ++ cs ++ cur.toList.drop (o + cs.length)).toArray) := by
  have hl := run_loadCells_list (P := P) w a cs hsrc
  have hst := run_storeCells_at P g o t cs 0 cur w hg (by simpa using hfit) h1
  cases hq : P.info? elem with
  | none => simp [hq] at hs
  | some i =>
    have hi : i.size = k := by simpa [hq] using hs
    simp [Builtin.copy_, run_underlying hu, Builtin.lenOf, Builtin.firstCells, sizeOf, typeInfo, hq, hi, ← hn, hl, hst]

theorem flat_map_get (f : Nat → Nat → Value) (n k q : Nat) (hq : q < n * k) : (flat f n k)[q]? = some (f (q / k) (q % k)) := by
  unfold flat
  rw [List.getElem?_map, List.getElem?_range hq]; rfl

/-- A store into a row that reads as a function. -/
def setF (f : Nat → Nat → Value) (i j : Nat) (u : Value) : Nat → Nat → Value := fun i' j' => if i' = i ∧ j' = j then u else f i' j'
theorem flat_setF (f : Nat → Nat → Value) (n k i j : Nat) (hj : j < k) (u : Value) : (flat f n k).set (i * k + j) u = flat (setF f i j u) n k := by
  refine List.ext_getElem? fun q => ?_
  rw [List.getElem?_set]
  have hk : 0 < k := by omega
  rcases Nat.lt_or_ge q (n * k) with hq | hq
  · rw [flat_map_get _ _ _ _ hq, flat_map_get _ _ _ _ hq]
    by_cases h : i * k + j = q
    · subst h
      have hd : (i * k + j) / k = i := by rw [Nat.mul_comm, Nat.mul_add_div hk, Nat.div_eq_of_lt hj]; rfl
      have hm : (i * k + j) % k = j := by rw [Nat.mul_comm, Nat.mul_add_mod, Nat.mod_eq_of_lt hj]
      rw [if_pos rfl, if_pos (by rw [flat_length]; exact hq), hd, hm]
      unfold setF
      rw [if_pos ⟨rfl, rfl⟩]
    · rw [if_neg h]
      unfold setF
      rw [if_neg]
      rintro ⟨h1, h2⟩
      apply h
      rw [← h1, ← h2, Nat.mul_comm]
      exact Nat.div_add_mod q k
  · have h1 : (flat f n k).length ≤ q := by rw [flat_length]; exact hq
    have h2 : (flat (setF f i j u) n k).length ≤ q := by rw [flat_length]; exact hq
    rw [List.getElem?_eq_none h2, List.getElem?_eq_none h1]
    split
    · rw [if_neg (by omega)]
    · rfl
theorem own_setF {w : World} {base n k g cap : Nat} {e : TypeId} {f : Nat → Nat → Value} (h : w.ownsRow base e k (.slice (some ⟨g, 0, none⟩) n cap) n (flat f n k)) (i j : Nat) (hi : i < n) (hj : j < k) (u : Value) :
    (w.setCell ⟨g, i * k + j, none⟩ u).ownsRow base e k (.slice (some ⟨g, 0, none⟩) n cap) n (flat (setF f i j u) n k) := by
  rw [← flat_setF f n k i j hj u]
  refine own_set h _ ?_ u
  rw [flat_length]
  have : (i + 1) * k ≤ n * k := Nat.mul_le_mul_right k hi
  rw [Nat.add_mul] at this
  omega

/-- The row behind copy(l[at+1:], l[at:]). -/
def shiftF (f : Nat → Nat → Value) (at_ : Nat) : Nat → Nat → Value := fun i j => if i ≤ at_ then f i j else f (i - 1) j
theorem setRow_get {w : World} {g : Nat} {cur : Array Value} {t : TypeId} (h : w.heap[g]? = some (.cells cur t (0, 0))) (cs : Array Value) : (w.setRow g cs).heap[g]? = some (.cells cs t (0, 0)) := by
  simp [World.setRow, Array.getElem?_modify, h]
theorem own_shift {w : World} {base n k g cap m : Nat} {e : TypeId} {f : Nat → Nat → Value} (hk : 0 < k) (h : w.ownsRow base e k (.slice (some ⟨g, 0, none⟩) (n + 1) cap) (n + 1) (flat f (n + 1) k)) (hm : m < n) :
    ∃ cur, w.heap[g]? = some (.cells cur e (0, 0)) ∧ cur.size = cap * k ∧ n + 1 ≤ cap ∧ (∀ q, q < (n + 1) * k → cur[q]? = some (f (q / k) (q % k))) ∧
      (w.setRow g (cur.toList.take ((m + 1) * k) ++ (List.range ((n - m) * k)).map (fun q => f (m + q / k) (q % k)) ++ cur.toList.drop ((m + 1) * k + (n - m) * k)).toArray).ownsRow base e k (.slice (some ⟨g, 0, none⟩) (n + 1) cap) (n + 1) (flat (shiftF f m) (n + 1) k) := by
  rcases h.2 with ⟨hv, _⟩ | ⟨g', cap', cur, hv, hb, hg, hnc, hcm, hcs, ht⟩
  · cases hv
  · cases hv
    have hcell : ∀ q, q < (n + 1) * k → cur[q]? = some (f (q / k) (q % k)) := fun q hq => by
      have h1 : (cur.toList.take ((n + 1) * k))[q]? = (flat f (n + 1) k)[q]? := by rw [ht]
      rw [List.getElem?_take, if_pos hq, flat_map_get _ _ _ _ hq] at h1
      simpa using h1
    refine ⟨cur, hg, hcs, hnc, hcell, ?_⟩
    obtain ⟨A, hA⟩ : ∃ A, (m + 1) * k = A := ⟨_, rfl⟩
    obtain ⟨D, hD⟩ : ∃ D, (n - m) * k = D := ⟨_, rfl⟩
    have hAD : A + D = (n + 1) * k := by rw [← hA, ← hD, ← Nat.add_mul]; congr 1; omega
    have hAk : A = m * k + k := by rw [← hA, Nat.add_mul]; omega
    have hle : (n + 1) * k ≤ cap * k := Nat.mul_le_mul_right k hnc
    have hlen1 : (cur.toList.take A).length = A := by rw [List.length_take, Array.length_toList, hcs]; omega
    refine ⟨by rw [flat_length], .inr ⟨g, cap, _, rfl, hb, setRow_get hg _, hnc, hcm, ?_, ?_⟩⟩
    · simp only [hA, hD, List.size_toArray, List.length_append, hlen1, List.length_map, List.length_range, List.length_drop, Array.length_toList, hcs]; omega
    · refine List.ext_getElem? fun q => ?_
      rw [List.getElem?_take]
      by_cases hq : q < (n + 1) * k
      · rw [if_pos hq, flat_map_get _ _ _ _ hq]
        simp only [hA, hD]
        rw [List.append_assoc]
        unfold shiftF
        rcases Nat.lt_or_ge q A with h1 | h1
        · rw [List.getElem?_append_left (by rw [hlen1]; exact h1), List.getElem?_take, if_pos h1]
          have h2 : q / k ≤ m := by
            have : q / k < m + 1 := Nat.div_lt_of_lt_mul (by rw [Nat.mul_comm, hA]; exact h1)
            omega
          rw [if_pos h2]
          have := hcell q hq
          simpa using this
        · rw [List.getElem?_append_right (by rw [hlen1]; exact h1), hlen1]
          have h2 : q - A < D := by omega
          rw [List.getElem?_append_left (by rw [List.length_map, List.length_range]; exact h2), List.getElem?_map, List.getElem?_range h2]
          have h3 : ¬ q / k ≤ m := by
            have : m + 1 ≤ q / k := (Nat.le_div_iff_mul_le hk).2 (by rw [hA]; exact h1)
            omega
          rw [if_neg h3]
          have h4 : (q - A) / k = q / k - (m + 1) := by
            have e : A = k * (m + 1) := by rw [Nat.mul_comm]; exact hA.symm
            rw [e]; exact Nat.sub_mul_div q k (m + 1)
          have h5 : (q - A) % k = q % k := by
            have e1 := Nat.div_add_mod (q - A) k
            have e2 := Nat.div_add_mod q k
            rw [h4] at e1
            have e3 : k * (q / k - (m + 1)) = k * (q / k) - k * (m + 1) := Nat.mul_sub k (q / k) (m + 1)
            have e4 : k * (m + 1) = A := by rw [Nat.mul_comm]; exact hA
            have e5 : k * (m + 1) ≤ k * (q / k) := Nat.mul_le_mul_left k (by omega)
            omega
          show some (f (m + (q - A) / k) ((q - A) % k)) = _
          rw [h4, h5]
          congr 2
          omega
      · rw [if_neg hq, List.getElem?_eq_none (by rw [flat_length]; omega)]
theorem wpList_copyk {P : Program} {w : World} {ops : Array Oper} {rest : List Oper} {o : Oper} {a : Act} {Q : Exit → Act → World → Prop} (hgd : o.guard = none) (d s : Operand) (dT sT : TypeId)
    (ho : o.op = .call { callee := .builtin .copy, args := #[d, s], argTypes := #[dT, sT] }) (elem : TypeId) (k : Nat) (hu : P.underlying dT = some (.slice elem)) (hsz : (P.info? elem).map (·.size) = some k)
    (g off dLen dCap : Nat) (ad : Addr) (sLen sCap : Nat) (hd : a.eval d = .slice (some ⟨g, off, none⟩) dLen dCap) (hs : a.eval s = .slice (some ad) sLen sCap)
    (cur : Array Value) (t : TypeId) (hg : w.heap[g]? = some (.cells cur t (0, 0))) (cs : List Value) (hn : cs.length = Nat.min sLen dLen * k)
    (hsrc : ∀ j v, cs[j]? = some v → w.cell? (ad.add j) = some v) (hfit : off + cs.length ≤ cur.size) (h1 : ∀ v ∈ cs, v.oneCell' = true)
    (h : wpList P ops Q rest (a.put o.dst (goInt (Nat.min sLen dLen))) (w.setRow g (cur.toList.take off ++ cs ++ cur.toList.drop (off + cs.length)).toArray)) : wpList P ops Q (o :: rest) a w := by
  refine wpList_plain hgd fun K hK => ?_
  have hrun := run_copy_rowk (P := P) w dT sT o.type elem k g off dLen dCap ad sLen sCap cur t cs hu hsz hg hn hsrc hfit h1
  unfold Oper.wp
  simp only [execOp, ho, resolve, invoke, builtin, Sem.run_bind, Sem.run_pure, Result.andThen_ok, List.map_toArray, List.map_cons, List.map_nil, hd, hs, hrun]
  exact hK _ _ h
theorem run_copy_nonek {P : Program} (w : World) (dT sT ty elem : TypeId) (k : Nat) (dp sp : Option Addr) (dLen dCap sLen sCap : Nat) (hu : P.underlying dT = some (.slice elem)) (hs : (P.info? elem).map (·.size) = some k) (hn : Nat.min sLen dLen = 0) :
    (Builtin.copy_ #[dT, sT] ty #[.slice dp dLen dCap, .slice sp sLen sCap]).run P w = .ok (goInt 0) w := by
  cases hq : P.info? elem with
  | none => simp [hq] at hs
  | some i => cases dp <;> cases sp <;> simp [Builtin.copy_, run_underlying hu, Builtin.lenOf, Builtin.firstCells, sizeOf, typeInfo, hq, hn, storeCells, loadCells, loadCellsFrom]
theorem wpList_copyk_none {P : Program} {w : World} {ops : Array Oper} {rest : List Oper} {o : Oper} {a : Act} {Q : Exit → Act → World → Prop} (hgd : o.guard = none) (d s : Operand) (dT sT : TypeId)
    (ho : o.op = .call { callee := .builtin .copy, args := #[d, s], argTypes := #[dT, sT] }) (elem : TypeId) (k : Nat) (hu : P.underlying dT = some (.slice elem)) (hsz : (P.info? elem).map (·.size) = some k)
    (dp sp : Option Addr) (dLen dCap sLen sCap : Nat) (hd : a.eval d = .slice dp dLen dCap) (hs : a.eval s = .slice sp sLen sCap) (hn : Nat.min sLen dLen = 0)
    (h : wpList P ops Q rest (a.put o.dst (goInt 0)) w) : wpList P ops Q (o :: rest) a w := by
  refine wpList_plain hgd fun K hK => ?_
  have hrun := run_copy_nonek (P := P) w dT sT o.type elem k dp sp dLen dCap sLen sCap hu hsz hn
  unfold Oper.wp
  simp only [execOp, ho, resolve, invoke, builtin, Sem.run_bind, Sem.run_pure, Result.andThen_ok, List.map_toArray, List.map_cons, List.map_nil, hd, hs, hrun]
  exact hK _ _ h
end Go.Proofs.YtahlecmlhdikjaaDoor
end

section
namespace Go.Proofs.YtahlecmlhdikjaaDoor
open Go.ChangeShapes Go.WideShapes Go.ChangeAt Go.RowKit
set_option linter.unusedVariables false
set_option linter.unusedSimpArgs false

set_option maxRecDepth 100000 in
theorem bytealg_CompareString (a b : ByteArray) (w : World) :
    Calls Tryd.prog 108 #[.string a, .string b] w fun e w' => e = .returned (.int .i64 (Lib.compareBytes a.data.toList b.data.toList)) ∧ w' = w := by
  go_enter Tryd.func108, Tryd.ntmps108
  go_wp2
  rw [run_callFunc_extern Tryd.func114 (by kernel_rfl) (by kernel_rfl) (by kernel_rfl) (e := Extern.BytealgCompare.compare) (by kernel_rfl), Lib.run_compareString]
  simp only [Result.andThen]
  rw [Oper.upon_value]
  go_wp2
  go_ret
  exact ⟨rfl, rfl⟩

set_option maxRecDepth 100000 in
theorem strings_Compare (a b : ByteArray) (w : World) :
    Calls Tryd.prog 101 #[.string a, .string b] w fun e w' => e = .returned (.int .i64 (Lib.compareBytes a.toList b.toList)) ∧ w' = w := by
  have h := bytealg_CompareString a b
  rw [Lib.toList_data, Lib.toList_data]
  obtain ⟨c, hc⟩ : ∃ c, Lib.compareBytes a.data.toList b.data.toList = c := ⟨_, rfl⟩
  rw [hc] at h ⊢
  have H := Lib.hid h
  clear h hc
  go_enter Tryd.func101, Tryd.ntmps101
  go_wp2_with fail
  refine (H.out _).mono ?_
  rintro e x ⟨rfl, hx⟩
  replace hx := hx.symm
  subst hx
  go_wp2
  go_ret
  exact ⟨rfl, rfl⟩

def orderF (a b : Int) : Int := if a < b then -1 else if b < a then 1 else 0
theorem lin_order (a b : Int) (w : World) : Calls Tryd.prog 102 #[.int .i64 a, .int .i64 b] w fun e w' => e = .returned (.int .i64 (orderF a b)) ∧ w' = w := by
  by_cases h1 : a < b
  · have : orderF a b = -1 := by unfold orderF; rw [if_pos h1]
    rw [this]
    clear this
    go_enter Tryd.func102, Tryd.ntmps102
    go_wp2
    go_ret
    exact ⟨rfl, rfl⟩
  · by_cases h2 : b < a
    · have : orderF a b = 1 := by unfold orderF; rw [if_neg h1, if_pos h2]
      rw [this]
      clear this
      go_enter Tryd.func102, Tryd.ntmps102
      go_wp2
      go_ret
      exact ⟨rfl, rfl⟩
    · obtain rfl : a = b := by omega
      have : orderF a a = 0 := by unfold orderF; simp
      rw [this]
      clear this h1 h2
      go_enter Tryd.func102, Tryd.ntmps102
      go_wp2
      go_ret
      exact ⟨rfl, rfl⟩

def cmpM (m m' : Mono) : Int := if m.1 = m'.1 then orderF m.2 m'.2 else Lib.compareBytes m.1.toList m'.1.toList
def cmpL : List Mono → List Mono → Int
  | [], [] => 0
  | [], _ :: _ => -1
  | _ :: _, [] => 1
  | m :: r, m' :: r' => if cmpM m m' ≠ 0 then cmpM m m' else cmpL r r'
def compareF (K : Int) (l : List Mono) (K' : Int) (l' : List Mono) : Int := if cmpL l l' ≠ 0 then cmpL l l' else orderF K K'

theorem lin_Compare1 (s s' : ByteArray) (b b' : Int) (w : World) :
    Calls Tryd.prog 100 #[.agg #[.string s, .int .i64 b], .agg #[.string s', .int .i64 b']] w fun e w' => e = .returned (.int .i64 (cmpM (s, b) (s', b'))) ∧ Up w w' := by
  obtain ⟨c, hc⟩ : ∃ c, cmpM (s, b) (s', b') = c := ⟨_, rfl⟩
  rw [hc]
  by_cases hss : s = s'
  · subst hss
    have H : Hid (∀ w, Calls Tryd.prog 102 #[.int .i64 b, .int .i64 b'] w fun e w' => e = .returned (.int .i64 c) ∧ w' = w) := Lib.hid fun w => by
      rw [← hc]; unfold cmpM; rw [if_pos rfl]; exact lin_order b b' w
    clear hc
    go_enter Tryd.func100, Tryd.ntmps100
    go_wp2_with fail
    refine (H.out _).mono ?_
    rintro e x ⟨rfl, hx⟩
    replace hx := hx.symm
    subst hx
    go_wp2
    go_ret
    exact ⟨rfl, ((Up.refl w).alloc _).alloc _⟩
  · have hs2 : (s.toList == s'.toList) = false := by simpa using fun e => hss (toList_inj e)
    have H : Hid (∀ w, Calls Tryd.prog 101 #[.string s, .string s'] w fun e w' => e = .returned (.int .i64 c) ∧ w' = w) := Lib.hid fun w => by
      rw [← hc]; unfold cmpM; rw [if_neg hss]; exact strings_Compare s s' w
    have hs3 : ¬ s.toList = s'.toList := by simpa using hs2
    clear hc
    go_enter Tryd.func100, Tryd.ntmps100
    go_wp2_with fail
    refine (H.out _).mono ?_
    rintro e x ⟨rfl, hx⟩
    replace hx := hx.symm
    subst hx
    go_wp2
    go_ret
    exact ⟨rfl, ((Up.refl w).alloc _).alloc _⟩

set_option maxHeartbeats 2000000 in
theorem slices_CompareFunc (v v' : Value) (l l' : List Mono) (w : World) (hv : MonosAt w v l) (hv' : MonosAt w v' l') :
    Calls Tryd.prog 99 #[v, v', .func (.func 100) #[] #[]] w fun e w' => e = .returned (.int .i64 (cmpL l l')) ∧ Up w w' := by
  have hmax := hv.max
  have hmax' := hv'.max
  obtain ⟨r, hr⟩ : ∃ r, cmpL l l' = r := ⟨_, rfl⟩
  rw [hr]
  obtain ⟨a, cap, rfl⟩ := hv.slice
  obtain ⟨a', cap', rfl⟩ := hv'.slice
  obtain ⟨n, hn⟩ : ∃ n, l.length = n := ⟨_, rfl⟩
  obtain ⟨n', hn'⟩ : ∃ n', l'.length = n' := ⟨_, rfl⟩
  rw [hn] at hv hmax ⊢
  rw [hn'] at hv' hmax' ⊢
  have HV := Lib.hid hv
  have HV' := Lib.hid hv'
  have HN := Lib.hid hn
  have HN' := Lib.hid hn'
  have HR := Lib.hid hr
  clear hr hn hv hv' hn'
  go_enter Tryd.func99, Tryd.ntmps99
  go_wp2
  go_loopw [13] (fun i wr => ∃ k : Nat, k ≤ n ∧ k ≤ n' ∧ i = .int .i64 k ∧ Up w wr ∧ cmpL (l.drop k) (l'.drop k) = r) (fun i _ => n - (intOf i).toNat)
  case atStart => exact ⟨0, by omega, by omega, rfl, Up.refl _, by rw [List.drop_zero, List.drop_zero]; exact HR.out⟩
  case round =>
    rename_i wr
    obtain ⟨k, hk, hk', rfl, hU, hP⟩ := hrel
    have HP := Lib.hid hP
    clear hP
    have hs := hU.size
    by_cases hlt : k < n
    · have hlt2 : (k : Int) < (n : Int) := by omega
      have hk0 : (0 : Int) ≤ (k : Int) := by omega
      obtain ⟨bl, off, s, b, rfl, p1, p2, p3, p4⟩ := HV.out.elem hU k (by rw [HN.out]; exact hlt) HN.out rfl
      have q1 : bl < wr.heap.size := by omega
      have q5 : bl < wr.heap.size + 1 := by omega
      have q6 : wr.heap.size < wr.heap.size + 1 := by omega
      by_cases hlt' : k < n'
      · have hlt3 : (k : Int) < (n' : Int) := by omega
        obtain ⟨bl', off', s', b', rfl, p1', p2', p3', p4'⟩ := HV'.out.elem hU k (by rw [HN'.out]; exact hlt') HN'.out rfl
        have q2 : bl' < wr.heap.size := by omega
        have q7 : bl' < wr.heap.size + 1 := by omega
        obtain ⟨c, hc⟩ : ∃ c, cmpM (s, b) (s', b') = c := ⟨_, rfl⟩
        have HP2 : Hid ((if c ≠ 0 then c else cmpL (l.drop (k + 1)) (l'.drop (k + 1))) = r) := Lib.hid (by
          rw [← HP.out, drop_mono (by rw [HN.out]; exact hlt) p2, drop_mono (l := l') (by rw [HN'.out]; exact hlt') p2', ← hc]; rfl)
        have H : Hid (∀ w, Calls Tryd.prog 100 #[.agg #[.string s, .int .i64 b], .agg #[.string s', .int .i64 b']] w fun e w' => e = .returned (.int .i64 c) ∧ Up w w') := Lib.hid (hc ▸ lin_Compare1 s s' b b')
        clear p2 p2' HP hc
        go_wp2_with fail
        refine (H.out _).mono ?_
        rintro e x ⟨rfl, hx⟩
        have HU2 := Lib.hid (((hU.alloc _).alloc _).trans hx)
        clear hx
        by_cases hc0 : c = 0
        · subst hc0
          have HG : Hid (cmpL (l.drop (k + 1)) (l'.drop (k + 1)) = r) := Lib.hid (by rw [← HP2.out]; simp)
          go_wp2
          go_roundw
          case rel => exact ⟨k + 1, by omega, by omega, by go_num, HU2.out, HG.out⟩
          case measure => simp [intOf]; omega
        · have hc1 : (c == 0) = false := by simpa using hc0
          have HG : Hid (c = r) := Lib.hid (by rw [← HP2.out, if_pos hc0])
          go_wp2
          go_ret
          exact ⟨ret_int HG.out, HU2.out⟩
      · have hkn : k = n' := by omega
        have hlt3 : (n' : Int) ≤ (k : Int) := by omega
        have HG : Hid (1 = r) := Lib.hid (by
          have hd : l'.drop k = [] := List.drop_eq_nil_of_le (by rw [HN'.out]; omega)
          rw [← HP.out, drop_mono (by rw [HN.out]; exact hlt) p2, hd]; rfl)
        clear p2 hkn
        go_wp2
        go_ret
        exact ⟨ret_int HG.out, hU.alloc _⟩
    · have hlt2 : (n : Int) ≤ (k : Int) := by omega
      by_cases hnn : n < n'
      · have h9 : (n : Int) < (n' : Int) := by omega
        have HG : Hid (-1 = r) := Lib.hid (by
          rw [← HP.out, List.drop_eq_nil_of_le (by rw [HN.out]; omega)]
          obtain ⟨m, hm⟩ : ∃ m, l'.getD k m0 = m := ⟨_, rfl⟩
          rw [drop_mono (l := l') (by rw [HN'.out]; omega) hm]; rfl)
        go_wp2
        go_ret
        exact ⟨ret_int HG.out, hU⟩
      · have h9 : (n' : Int) ≤ (n : Int) := by omega
        have HG : Hid (0 = r) := Lib.hid (by
          rw [← HP.out, List.drop_eq_nil_of_le (by rw [HN.out]; omega), List.drop_eq_nil_of_le (by rw [HN'.out]; omega)]; rfl)
        go_wp2
        go_ret
        exact ⟨ret_int HG.out, hU⟩

set_option maxHeartbeats 1000000 in
theorem lin_Compare (K K' : Int) (v v' : Value) (l l' : List Mono) (w : World) (hv : MonosAt w v l) (hv' : MonosAt w v' l') :
    Calls Tryd.prog 73 #[.agg #[.int .i64 K, v], .agg #[.int .i64 K', v']] w fun e w' => e = .returned (.int .i64 (compareF K l K' l')) ∧ Up w w' := by
  obtain ⟨r, hr⟩ : ∃ r, compareF K l K' l' = r := ⟨_, rfl⟩
  rw [hr]
  have HV := Lib.hid hv
  have HV' := Lib.hid hv'
  obtain ⟨a, cap, rfl⟩ := hv.slice
  obtain ⟨a', cap', rfl⟩ := hv'.slice
  obtain ⟨n, hn⟩ : ∃ n, l.length = n := ⟨_, rfl⟩
  obtain ⟨n', hn'⟩ : ∃ n', l'.length = n' := ⟨_, rfl⟩
  rw [hn] at HV ⊢
  rw [hn'] at HV' ⊢
  obtain ⟨c, hc⟩ : ∃ c, cmpL l l' = c := ⟨_, rfl⟩
  obtain ⟨o, ho⟩ : ∃ c, orderF K K' = c := ⟨_, rfl⟩
  have HR : Hid ((if c ≠ 0 then c else o) = r) := Lib.hid (by rw [← hr]; unfold compareF; rw [hc, ho])
  have HC : Hid (∀ w v v', MonosAt w v l → MonosAt w v' l' → Calls Tryd.prog 99 #[v, v', .func (.func 100) #[] #[]] w fun e w' => e = .returned (.int .i64 c) ∧ Up w w') := Lib.hid fun w v v' h h' => by
    have := slices_CompareFunc v v' l l' w h h'
    rw [hc] at this; exact this
  have HO : Hid (∀ w, Calls Tryd.prog 102 #[.int .i64 K, .int .i64 K'] w fun e w' => e = .returned (.int .i64 o) ∧ w' = w) := Lib.hid (ho ▸ lin_order K K')
  clear hr hc ho hn hn' hv hv'
  go_enter Tryd.func73, Tryd.ntmps73
  go_wp2_with fail
  refine (HC.out _ _ _ (HV.out.up (((Up.refl w).alloc _).alloc _)) (HV'.out.up (((Up.refl w).alloc _).alloc _))).mono ?_
  rintro e x ⟨rfl, hx⟩
  have hs := hx.size
  rw [size_alloc, size_alloc] at hs
  have b0 : x.cell? ⟨w.heap.size, 0, none⟩ = some (.int .i64 K) := (hx.cell _ _ (by rw [size_alloc, size_alloc]; omega)).trans (by go_simp)
  have b1 : x.cell? ⟨w.heap.size + 1, 0, none⟩ = some (.int .i64 K') := (hx.cell _ _ (by rw [size_alloc, size_alloc]; omega)).trans (by go_simp)
  have HU := Lib.hid ((((Up.refl w).alloc _).alloc _).trans hx)
  clear hx
  by_cases hc0 : c = 0
  · subst hc0
    have HG : Hid (o = r) := Lib.hid (by rw [← HR.out]; simp)
    go_wp2_with fail
    refine (HO.out _).mono ?_
    rintro e x ⟨rfl, hx⟩
    replace hx := hx.symm
    subst hx
    go_wp2
    go_ret
    exact ⟨ret_int HG.out, HU.out⟩
  · have hc1 : (c == 0) = false := by simpa using hc0
    have HG : Hid (c = r) := Lib.hid (by rw [← HR.out, if_pos hc0])
    go_wp2
    go_ret
    exact ⟨ret_int HG.out, HU.out⟩
end Go.Proofs.YtahlecmlhdikjaaDoor
end

section
namespace Go.Proofs.YtahlecmlhdikjaaDoor
open Go.ChangeShapes Go.WideShapes Go.ChangeAt Go.RowKit
set_option linter.unusedVariables false
set_option linter.unusedSimpArgs false

def keepC (x c : Con) : Con := if keepL x.1 c.1 x.2.2 c.2.2 then x else c
def agreeC (x c : Con) : Bool := agree x.1 c.1 x.2.2 c.2.2
def insG (c : Con) (cs : List Con) : List Con → Nat → Nat → List Con × Bool
  | [], _, p => (cs.take p ++ c :: cs.drop p, true)
  | x :: r, i, p => if eqM x.2.1 c.2.1 then (cs.set i (keepC x c), agreeC x c) else insG c cs r (i + 1) (if p = cs.length ∧ compareF c.1 c.2.1 x.1 x.2.1 < 0 then i else p)
theorem insG_cons (c : Con) (cs : List Con) (x : Con) (r : List Con) (i p : Nat) : insG c cs (x :: r) i p = if eqM x.2.1 c.2.1 then (cs.set i (keepC x c), agreeC x c) else insG c cs r (i + 1) (if p = cs.length ∧ compareF c.1 c.2.1 x.1 x.2.1 < 0 then i else p) := rfl
def insF (c : Con) (cs : List Con) : List Con × Bool := insG c cs cs 0 cs.length
def normG : List TCon → List Con → Bool → List Con × Bool
  | [], out, fits => (out, fits)
  | t :: r, out, fits => if t.2 = 0 then normG r (insF t.1 out).1 (fits && (insF t.1 out).2) else if t.2 = 2 then normG r out false else normG r out fits
theorem normG_cons (t : TCon) (r : List TCon) (out : List Con) (fits : Bool) : normG (t :: r) out fits = if t.2 = 0 then normG r (insF t.1 out).1 (fits && (insF t.1 out).2) else if t.2 = 2 then normG r out false else normG r out fits := rfl
def normF (cs : List Con) : List Con × Bool × Int :=
  if 256 < cs.length then ([], false, 2)
  else if (allF cs []).2 ≠ 0 then ([], false, (allF cs []).2)
  else if (normG (allF cs []).1 [] true).2 then ((normG (allF cs []).1 [] true).1, true, 0) else ([], false, 0)

theorem insG_len (c : Con) (cs : List Con) : ∀ (r : List Con) (i p : Nat), (insG c cs r i p).1.length ≤ cs.length + 1 := by
  intro r
  induction r with
  | nil => intro i p; show (cs.take p ++ c :: cs.drop p).length ≤ _; simp; omega
  | cons x r ih =>
    intro i p
    rw [insG_cons]
    split
    · simp
    · exact ih _ _

theorem con_getD {cs : List Con} {i : Nat} (h : i < cs.length) {K : Int} {l : List Mono} {b : Bool} (hg : cs.getD i c0 = (K, l, b)) : cs.drop i = (K, l, b) :: cs.drop (i + 1) := by
  have := List.drop_eq_getElem_cons (l := cs) (i := i) h
  rw [this]
  congr 1
  rw [List.getD_eq_getElem?_getD, List.getElem?_eq_getElem h] at hg
  exact hg
theorem getD_set (cs : List Con) (i j : Nat) (x : Con) (hj : j < cs.length) : (cs.set i x).getD j c0 = if j = i then x else cs.getD j c0 := by
  rw [List.getD_eq_getElem?_getD, List.getD_eq_getElem?_getD, List.getElem?_set]
  by_cases h : i = j
  · subst h; simp [hj]
  · rw [if_neg h, if_neg (fun e => h e.symm)]
theorem getD_ins (cs : List Con) (p j : Nat) (x : Con) (hp : p ≤ cs.length) (hj : j < cs.length + 1) : (cs.take p ++ x :: cs.drop p).getD j c0 = if j < p then cs.getD j c0 else if j = p then x else cs.getD (j - 1) c0 := by
  rw [List.getD_eq_getElem?_getD, List.getD_eq_getElem?_getD, List.getD_eq_getElem?_getD]
  have hl : (cs.take p).length = p := by rw [List.length_take]; omega
  rcases Nat.lt_trichotomy j p with h | h | h
  · rw [if_pos h, List.getElem?_append_left (by omega), List.getElem?_take, if_pos h]
  · subst h
    rw [if_neg (Nat.lt_irrefl _), if_pos rfl, List.getElem?_append_right (by omega), hl, Nat.sub_self]; rfl
  · rw [if_neg (by omega), if_neg (by omega), List.getElem?_append_right (by omega), hl]
    obtain ⟨q, hq⟩ : ∃ q, j - p = q + 1 := ⟨j - p - 1, by omega⟩
    rw [hq, List.getElem?_cons_succ, List.getElem?_drop]
    congr 2
    omega

/-- A list of constraints in a row of the call's own (its forms' monomials lie in W0). -/
def RowC (W0 : World) (B : Nat) (w : World) (v : Value) (cs : List Con) (vs : Nat → Value) : Prop :=
  w.ownsRow B 26 3 v cs.length (flat (conF cs vs) cs.length 3) ∧ (∀ j, j < cs.length → Part W0 (vs j) (cs.getD j c0).2.1 ∧ In64 (cs.getD j c0).1)
theorem RowC.up {W0 : World} {B : Nat} {w w' : World} {v : Value} {cs : List Con} {vs : Nat → Value} (h : RowC W0 B w v cs vs) (u : Up w w') : RowC W0 B w' v cs vs := ⟨own_up' h.1 u, h.2⟩
theorem RowC.cons {W0 : World} {B : Nat} {w : World} {v : Value} {cs : List Con} {vs : Nat → Value} (h : RowC W0 B w v cs vs) (u : Up W0 w) (hn : cs.length ≤ 9223372036854775807) : ConsAt w v cs :=
  ⟨vs, SlAt.of_own h.1 hn (fun i j hi hj => flat_get _ _ _ _ _ hi hj), fun i hi => ⟨(h.2 i hi).1.up u, (h.2 i hi).2⟩⟩
theorem con_sl (x : World) (K : Int) (v : Value) (l : List Mono) (b : Bool) : SlAt (x.alloc (.cells #[.int .i64 K, v, .bool b] 26)) (.slice (some ⟨x.heap.size, 0, none⟩) 1 1) 1 3 (conF [(K, l, b)] (fun _ => v)) :=
  SlAt.new x _ _ 1 3 _ (by decide) fun i j hi hj => by
    obtain rfl : i = 0 := by omega
    rcases (by omega : j = 0 ∨ j = 1 ∨ j = 2) with rfl | rfl | rfl <;> rfl
/-- The row behind the append of one element. -/
def conI (cs : List Con) (vs : Nat → Value) (K : Int) (v : Value) (l : List Mono) (b : Bool) (n : Nat) (i j : Nat) : Value := if i = n then conF [(K, l, b)] (fun _ => v) 0 j else conF cs vs i j
theorem con_snoc (cs : List Con) (vs : Nat → Value) (K : Int) (v : Value) (l : List Mono) (b : Bool) (n : Nat) : flat (conF cs vs) n 3 ++ flat (conF [(K, l, b)] (fun _ => v)) 1 3 = flat (conI cs vs K v l b n) (n + 1) 3 :=
  flat_snoc (by omega) (fun i j h1 h2 => by unfold conI; rw [if_neg (by omega)]) (fun j h2 => by unfold conI; rw [if_pos rfl])
theorem conI_one {W0 : World} {cs : List Con} {vs : Nat → Value} {K : Int} {a : Option Addr} {m c : Nat} {l : List Mono} {b : Bool} {n : Nat} (h : ∀ j, j < n → Part W0 (vs j) (cs.getD j c0).2.1) (i j : Nat) (hi : i < n + 1) (hj : j < 3) : (conI cs vs K (.slice a m c) l b n i j).oneCell' = true := by
  unfold conI
  by_cases he : i = n
  · rw [if_pos he]
    rcases (by omega : j = 0 ∨ j = 1 ∨ j = 2) with rfl | rfl | rfl <;> rfl
  · rw [if_neg he]
    obtain ⟨a', c', hv⟩ := (h i (by omega)).1.slice
    unfold conF
    rcases (by omega : j = 0 ∨ j = 1 ∨ j = 2) with rfl | rfl | rfl
    · rfl
    · show (vs i).oneCell' = true
      rw [hv]; rfl
    · rfl
theorem con_info : (Tryd.prog.info? 26).map (fun i => (i.zero, i.size, i.bytes)) = some (some (.agg #[.int .i64 0, .slice none 0 0, .bool false]), 3, 40) := by kernel_rfl
theorem con_size : (Tryd.prog.info? 26).map (·.size) = some 3 := by kernel_rfl

/-- m laid over element i. -/
theorem RowC.set {W0 : World} {B : Nat} {w : World} {g cap n : Nat} {cs : List Con} {vs : Nat → Value} (h : RowC W0 B w (.slice (some ⟨g, 0, none⟩) n cap) cs vs) (hn : cs.length = n) (i : Nat) (hi : i < n) (K : Int) (v : Value) (l : List Mono) (b : Bool) (hp : Part W0 v l) (hK : In64 K) :
    RowC W0 B (((w.setCell ⟨g, i * 3, none⟩ (.int .i64 K)).setCell ⟨g, i * 3 + 1, none⟩ v).setCell ⟨g, i * 3 + 2, none⟩ (.bool b)) (.slice (some ⟨g, 0, none⟩) n cap) (cs.set i (K, l, b)) (fun j => if j = i then v else vs j) := by
  obtain ⟨h1, h2⟩ := h
  subst hn
  have e1 := own_setF (own_setF (own_setF h1 i 0 hi (by omega) (.int .i64 K)) i 1 hi (by omega) v) i 2 hi (by omega) (.bool b)
  refine ⟨?_, fun j hj => ?_⟩
  · rw [List.length_set, flat_congr (f := conF (cs.set i (K, l, b)) fun j => if j = i then v else vs j) (h := setF (setF (setF (conF cs vs) i 0 (.int .i64 K)) i 1 v) i 2 (.bool b)) (by omega)]
    · exact e1
    · intro i' j hi' hj
      unfold setF conF
      by_cases he : i' = i
      · subst he
        rcases (by omega : j = 0 ∨ j = 1 ∨ j = 2) with rfl | rfl | rfl <;> simp [hi']
      · have hd : (cs.set i (K, l, b)).getD i' c0 = cs.getD i' c0 := by rw [getD_set _ _ _ _ hi', if_neg he]
        rcases (by omega : j = 0 ∨ j = 1 ∨ j = 2) with rfl | rfl | rfl <;> simp only [he, false_and, if_false, hd]
  · rw [List.length_set] at hj
    rw [getD_set _ _ _ _ hj]
    by_cases he : j = i
    · subst he; simp only [if_true]; exact ⟨hp, hK⟩
    · simp only [he, if_false]; exact h2 j hj
/-- Row and new element, behind the append, the copy and the store. -/
theorem RowC.ins {W0 : World} {B : Nat} {w : World} {g cap n : Nat} {cs : List Con} {vs : Nat → Value} {K : Int} {v : Value} {l : List Mono} {b : Bool} (hn : cs.length = n) (hps : ∀ j, j < n → Part W0 (vs j) (cs.getD j c0).2.1 ∧ In64 (cs.getD j c0).1) (hp : Part W0 v l) (hK : In64 K) (p : Nat) (hpn : p ≤ n)
    {f : Nat → Nat → Value} (hown : w.ownsRow B 26 3 (.slice (some ⟨g, 0, none⟩) (n + 1) cap) (n + 1) (flat f (n + 1) 3))
    (hf : ∀ i j, i < n + 1 → j < 3 → i ≠ p → f i j = if i < p then conF cs vs i j else conF cs vs (i - 1) j) :
    RowC W0 B (((w.setCell ⟨g, p * 3, none⟩ (.int .i64 K)).setCell ⟨g, p * 3 + 1, none⟩ v).setCell ⟨g, p * 3 + 2, none⟩ (.bool b)) (.slice (some ⟨g, 0, none⟩) (n + 1) cap) (cs.take p ++ (K, l, b) :: cs.drop p) (fun j => if j < p then vs j else if j = p then v else vs (j - 1)) := by
  subst hn
  have hl : (cs.take p ++ (K, l, b) :: cs.drop p).length = cs.length + 1 := by simp; omega
  have e1 := own_setF (own_setF (own_setF hown p 0 (by omega) (by omega) (.int .i64 K)) p 1 (by omega) (by omega) v) p 2 (by omega) (by omega) (.bool b)
  refine ⟨?_, fun j hj => ?_⟩
  · rw [hl, flat_congr (f := conF (cs.take p ++ (K, l, b) :: cs.drop p) fun j => if j < p then vs j else if j = p then v else vs (j - 1)) (h := setF (setF (setF f p 0 (.int .i64 K)) p 1 v) p 2 (.bool b)) (by omega)]
    · exact e1
    · intro i j hi hj
      have hd := getD_ins cs p i (K, l, b) hpn hi
      by_cases he : i = p
      · subst he
        rw [if_neg (Nat.lt_irrefl _), if_pos rfl] at hd
        unfold setF conF
        rcases (by omega : j = 0 ∨ j = 1 ∨ j = 2) with rfl | rfl | rfl <;> simp only [hd, true_and, if_true, Nat.lt_irrefl, if_false] <;> simp
      · have h3 := hf i j hi hj he
        have e2 : setF (setF (setF f p 0 (.int .i64 K)) p 1 v) p 2 (.bool b) i j = f i j := by unfold setF; simp only [he, false_and, if_false]
        rw [e2, h3]
        unfold conF
        by_cases hlt : i < p
        · rw [if_pos hlt] at hd
          rcases (by omega : j = 0 ∨ j = 1 ∨ j = 2) with rfl | rfl | rfl <;> simp only [hd, hlt, if_true]
        · rw [if_neg hlt, if_neg he] at hd
          rcases (by omega : j = 0 ∨ j = 1 ∨ j = 2) with rfl | rfl | rfl <;> simp only [hd, hlt, he, if_false]
  · rw [hl] at hj
    have hd := getD_ins cs p j (K, l, b) hpn hj
    rw [hd]
    dsimp only
    rcases Nat.lt_trichotomy j p with h | h | h
    · rw [if_pos h, if_pos h]; exact hps j (by omega)
    · subst h; rw [if_neg (Nat.lt_irrefl _), if_pos rfl, if_neg (Nat.lt_irrefl _), if_pos rfl]; exact ⟨hp, hK⟩
    · rw [if_neg (by omega), if_neg (by omega), if_neg (by omega), if_neg (by omega)]; exact hps (j - 1) (by omega)
end Go.Proofs.YtahlecmlhdikjaaDoor
end

section
namespace Go.Proofs.YtahlecmlhdikjaaDoor
open Go.ChangeShapes Go.WideShapes Go.ChangeAt Go.RowKit
set_option linter.unusedVariables false
set_option linter.unusedSimpArgs false
set_option maxRecDepth 100000

def formL (a b : Int) : List Mono := (if a = 0 then [] else [(⟨#[105]⟩, a)]) ++ (if b = 0 then [] else [(⟨#[106]⟩, b)])
def FormV (w : World) (k : Int) (l : List Mono) (e : Ending) (w' : World) : Prop := (∃ lv, e = .returned (.agg #[.int .i64 k, lv]) ∧ Part w' lv l) ∧ Up w w'
theorem formL_rng {a b : Int} (ha : In64 a) (hb : In64 b) : Rng (formL a b) := fun k hk => by
  have hm : ∀ m ∈ formL a b, In64 m.2 := fun m hm => by
    unfold formL at hm
    rcases List.mem_append.1 hm with h | h
    · split at h
      · cases h
      · rcases List.mem_singleton.1 h with rfl; exact ha
    · split at h
      · cases h
      · rcases List.mem_singleton.1 h with rfl; exact hb
  rw [List.getD_eq_getElem?_getD, List.getElem?_eq_getElem hk]
  exact hm _ (List.getElem_mem hk)
theorem UpRow.frozen2 {h b : Nat} {w w' : World} (u : UpRow h b w w') (k o : Nat) (hk : k < h) (hb : k ≠ b) : w'.frozen? ⟨k, o, none⟩ = w.frozen? ⟨k, o, none⟩ :=
  World.frozen?_of_block (a := ⟨k, o, none⟩) (u.block k hk hb)
theorem UpRow.step {h b : Nat} {x y : World} (u : Up x y) (hh : h ≤ x.heap.size) : UpRow h b x y := u.row hh

set_option maxHeartbeats 4000000 in
theorem law_form (k a b : Int) (w : World) (ha : In64 a) (hb : In64 b) :
    Calls Tryd.prog 34 #[.int .i64 k, .int .i64 a, .int .i64 b] w (FormV w k (formL a b)) := by
  obtain ⟨i0, hi0, hz0, hz1, hz2⟩ := info_parts mono_info
  have HRN := Lib.hid (formL_rng ha hb)
  obtain ⟨S, hS⟩ : ∃ S, w.heap.size = S := ⟨_, rfl⟩
  have hset : ∀ (x : World) (v : Value) (o : Nat), Up w x → Up w (x.setCell ⟨S, o, none⟩ v) := fun x v o u => u.setCell (by show w.heap.size ≤ S; omega) v
  have HSET := Lib.hid hset
  have HS := Lib.hid hS
  clear hset ha hb
  by_cases ha : a = 0
  · by_cases hb : b = 0
    · have HFL : Hid (formL a b = []) := Lib.hid (by unfold formL; simp [ha, hb])
      obtain rfl := ha
      obtain rfl := hb
      go_enter Tryd.func34, Tryd.ntmps34
      go_upto_region 2 with fail
      try rw [HS.out]
      obtain ⟨x, hx⟩ : ∃ x, (w.alloc (.cells #[.int .i64 0, .slice none 0 0] 24)).alloc (.cells #[.int .i64 k, .slice none 0 0] 24) = x := ⟨_, rfl⟩
      obtain ⟨O, hO⟩ : ∃ O, S + 1 = O := ⟨_, rfl⟩
      have HO : Hid (OutAt x (O + 1) O k [] 0 none 0) := Lib.hid (by
        have h1 := heap_alloc_new (w.alloc (.cells #[.int .i64 0, .slice none 0 0] 24)) (.cells #[.int .i64 k, .slice none 0 0] 24)
        rw [size_alloc, HS.out, hO, hx] at h1
        exact ⟨rfl, h1, World.ownsRow_nil _ _ _ _, by omega, by rw [← hx, size_alloc, size_alloc, HS.out]; omega⟩)
      have HU0 : Hid (Up w x) := Lib.hid (hx ▸ ((Up.refl w).alloc _).alloc _)
      have hr : x.heap[S]? = some (.cells #[.int .i64 0, .slice none 0 0] 24 (0, 0)) := by
        rw [← hx, Below.heap_alloc _ _ _ (by rw [size_alloc, HS.out]; omega), ← HS.out]
        exact heap_alloc_new w _
      have HR0 : Hid (x.cell? ⟨S, 0, none⟩ = some (.int .i64 0)) := Lib.hid (cell_of_row _ _ _ _ _ _ hr)
      have HR1 : Hid (x.cell? ⟨S, 1, none⟩ = some (.slice none 0 0)) := Lib.hid (cell_of_row _ _ _ _ _ _ hr)
      have HRF : Hid (∀ o, x.frozen? ⟨S, o, none⟩ = false) := Lib.hid fun o => frozen_of_row _ _ _ _ _ hr
      rw [hx]
      try rw [hO]
      have HR := Lib.hid (UpRow.refl (O + 1) O x)
      have hSO : S < O := by omega
      have n1 : (S = O) = False := by simp; omega
      have n2 : (O = S) = False := by simp; omega
      clear hr hx hO
      obtain ⟨o0, o1, of, ol⟩ := HO.out.cells
      have HUX := Lib.hid (UpRow.up HU0.out (by rw [HS.out]; omega) (by omega) HR.out)
      have r0 := (HR.out.cell S 0 (by omega) (by omega)).trans HR0.out
      have r1 := (HR.out.cell S 1 (by omega) (by omega)).trans HR1.out
      have rf : ∀ o, x.frozen? ⟨S, o, none⟩ = false := fun o => (HR.out.frozen2 S o (by omega) (by omega)).trans (HRF.out o)
      have rs : S < x.heap.size := by omega
      go_wp2
      refine bodyPost_ret (v := .agg #[.int .i64 k, .slice none 0 0]) (by first | (simp [results, Tryd.results34, go_sem, r0, r1]; done) | (simp [results, Tryd.results34, go_sem, r0, r1, rs]; done) | go_simp) rfl ?_
      refine ⟨⟨.slice none 0 0, rfl, ?_⟩, by repeat (first | exact HUX.out | refine HSET.out _ _ _ ?_)⟩
      rw [HFL.out]
      refine ⟨?_, HFL.out ▸ HRN.out, own_cap HO.out.2.2.1⟩
      refine SlAt.of_own (base := O + 1) (e := 56) (xs := monoCells []) ?_ (by simp) (fun i j hi hj => monoCells_get _ i j hi hj)
      repeat (first | exact HO.out.2.2.1 | refine ownsRow_setCell_below ?_ (by show S < O + 1; omega) _)
    · have HFL : Hid (formL a b = [(⟨#[106]⟩, b)]) := Lib.hid (by unfold formL; simp [ha, hb])
      obtain rfl := ha
      have hb1 : (b == 0) = false := by simpa using hb
      go_enter Tryd.func34, Tryd.ntmps34
      go_upto_region 2 with fail
      try rw [HS.out]
      obtain ⟨x, hx⟩ : ∃ x, (w.alloc (.cells #[.int .i64 0, .slice none 0 0] 24)).alloc (.cells #[.int .i64 k, .slice none 0 0] 24) = x := ⟨_, rfl⟩
      obtain ⟨O, hO⟩ : ∃ O, S + 1 = O := ⟨_, rfl⟩
      have HO : Hid (OutAt x (O + 1) O k [] 0 none 0) := Lib.hid (by
        have h1 := heap_alloc_new (w.alloc (.cells #[.int .i64 0, .slice none 0 0] 24)) (.cells #[.int .i64 k, .slice none 0 0] 24)
        rw [size_alloc, HS.out, hO, hx] at h1
        exact ⟨rfl, h1, World.ownsRow_nil _ _ _ _, by omega, by rw [← hx, size_alloc, size_alloc, HS.out]; omega⟩)
      have HU0 : Hid (Up w x) := Lib.hid (hx ▸ ((Up.refl w).alloc _).alloc _)
      have hr : x.heap[S]? = some (.cells #[.int .i64 0, .slice none 0 0] 24 (0, 0)) := by
        rw [← hx, Below.heap_alloc _ _ _ (by rw [size_alloc, HS.out]; omega), ← HS.out]
        exact heap_alloc_new w _
      have HR0 : Hid (x.cell? ⟨S, 0, none⟩ = some (.int .i64 0)) := Lib.hid (cell_of_row _ _ _ _ _ _ hr)
      have HR1 : Hid (x.cell? ⟨S, 1, none⟩ = some (.slice none 0 0)) := Lib.hid (cell_of_row _ _ _ _ _ _ hr)
      have HRF : Hid (∀ o, x.frozen? ⟨S, o, none⟩ = false) := Lib.hid fun o => frozen_of_row _ _ _ _ _ hr
      rw [hx]
      try rw [hO]
      have HR := Lib.hid (UpRow.refl (O + 1) O x)
      have hSO : S < O := by omega
      have n1 : (S = O) = False := by simp; omega
      have n2 : (O = S) = False := by simp; omega
      clear hr hx hO
      obtain ⟨o0, o1, of, ol⟩ := HO.out.cells
      have HKEY := Lib.hid (HO.out.key ⟨#[106]⟩ b)
      go_upto_region 6 with (at_builtin; refine wpList_append_sl _ rfl _ _ 22 rfl (O + 1) 56 i0 _ 2 24 Tryd.underlying22 hi0 hz0 hz1 hz2 rfl (by decide) (.slice none 0 0) 0 _ rfl (HO.out.2.2.1.alloc _) (.slice (some ⟨x.heap.size, 0, none⟩) 1 1) 1 _ rfl (mono_sl x ⟨#[106]⟩ b) (mono_one ⟨#[106]⟩ b) (by unfold maxLen; omega) (by omega) (by have := HO.out.2.2.2.2; simp; omega) ?_; intro v1 w1 hown1 hg1 hat1 hnil1; obtain ⟨vb, vd, rfl⟩ := own_slice hown1; obtain ⟨d2, d3, HD2, HD3, HD4⟩ := HKEY.out w1 hg1; have HO1 := Lib.hid hown1; clear hown1 hg1 hat1 hnil1)
      obtain ⟨hf1, hf2⟩ := HO.out.done ⟨#[106]⟩ b HD2.out HD3.out HD4.out vb vd HO1.out
      replace HR := Lib.hid (HR.out.trans hf2)
      replace HO := Lib.hid hf1
      clear hf1 hf2 HO1 HD2 HD3 HD4 HKEY d2 d3 o0 o1 of ol
      obtain ⟨x', hx'⟩ : ∃ y, w1.setCell ⟨O, 1, none⟩ (.slice vb (0 + 1) vd) = y := ⟨_, rfl⟩
      rw [hx'] at HO HR
      try rw [Nat.zero_add] at hx'
      rw [hx']
      clear hx'
      try rw [Nat.zero_add] at HO
      simp only [List.nil_append, List.cons_append] at HO
      skip
      obtain ⟨o0, o1, of, ol⟩ := HO.out.cells
      have HUX := Lib.hid (UpRow.up HU0.out (by rw [HS.out]; omega) (by omega) HR.out)
      have r0 := (HR.out.cell S 0 (by omega) (by omega)).trans HR0.out
      have r1 := (HR.out.cell S 1 (by omega) (by omega)).trans HR1.out
      have rf : ∀ o, x'.frozen? ⟨S, o, none⟩ = false := fun o => (HR.out.frozen2 S o (by omega) (by omega)).trans (HRF.out o)
      have rs : S < x'.heap.size := by omega
      go_wp2
      refine bodyPost_ret (v := .agg #[.int .i64 k, .slice vb 1 vd]) (by first | (simp [results, Tryd.results34, go_sem, r0, r1]; done) | (simp [results, Tryd.results34, go_sem, r0, r1, rs]; done) | go_simp) rfl ?_
      refine ⟨⟨.slice vb 1 vd, rfl, ?_⟩, by repeat (first | exact HUX.out | refine HSET.out _ _ _ ?_)⟩
      rw [HFL.out]
      refine ⟨?_, HFL.out ▸ HRN.out, own_cap HO.out.2.2.1⟩
      refine SlAt.of_own (base := O + 1) (e := 56) (xs := monoCells [(⟨#[106]⟩, b)]) ?_ (by simp) (fun i j hi hj => monoCells_get _ i j hi hj)
      repeat (first | exact HO.out.2.2.1 | refine ownsRow_setCell_below ?_ (by show S < O + 1; omega) _)
  have ha1 : (a == 0) = false := by simpa using ha
  by_cases hb : b = 0
  · have HFL : Hid (formL a b = [(⟨#[105]⟩, a)]) := Lib.hid (by unfold formL; simp [ha, hb])
    obtain rfl := hb
    go_enter Tryd.func34, Tryd.ntmps34
    go_upto_region 2 with fail
    try rw [HS.out]
    obtain ⟨x, hx⟩ : ∃ x, (w.alloc (.cells #[.int .i64 0, .slice none 0 0] 24)).alloc (.cells #[.int .i64 k, .slice none 0 0] 24) = x := ⟨_, rfl⟩
    obtain ⟨O, hO⟩ : ∃ O, S + 1 = O := ⟨_, rfl⟩
    have HO : Hid (OutAt x (O + 1) O k [] 0 none 0) := Lib.hid (by
      have h1 := heap_alloc_new (w.alloc (.cells #[.int .i64 0, .slice none 0 0] 24)) (.cells #[.int .i64 k, .slice none 0 0] 24)
      rw [size_alloc, HS.out, hO, hx] at h1
      exact ⟨rfl, h1, World.ownsRow_nil _ _ _ _, by omega, by rw [← hx, size_alloc, size_alloc, HS.out]; omega⟩)
    have HU0 : Hid (Up w x) := Lib.hid (hx ▸ ((Up.refl w).alloc _).alloc _)
    have hr : x.heap[S]? = some (.cells #[.int .i64 0, .slice none 0 0] 24 (0, 0)) := by
      rw [← hx, Below.heap_alloc _ _ _ (by rw [size_alloc, HS.out]; omega), ← HS.out]
      exact heap_alloc_new w _
    have HR0 : Hid (x.cell? ⟨S, 0, none⟩ = some (.int .i64 0)) := Lib.hid (cell_of_row _ _ _ _ _ _ hr)
    have HR1 : Hid (x.cell? ⟨S, 1, none⟩ = some (.slice none 0 0)) := Lib.hid (cell_of_row _ _ _ _ _ _ hr)
    have HRF : Hid (∀ o, x.frozen? ⟨S, o, none⟩ = false) := Lib.hid fun o => frozen_of_row _ _ _ _ _ hr
    rw [hx]
    try rw [hO]
    have HR := Lib.hid (UpRow.refl (O + 1) O x)
    have hSO : S < O := by omega
    have n1 : (S = O) = False := by simp; omega
    have n2 : (O = S) = False := by simp; omega
    clear hr hx hO
    obtain ⟨o0, o1, of, ol⟩ := HO.out.cells
    have HKEY := Lib.hid (HO.out.key ⟨#[105]⟩ a)
    go_upto_region 6 with (at_builtin; refine wpList_append_sl _ rfl _ _ 22 rfl (O + 1) 56 i0 _ 2 24 Tryd.underlying22 hi0 hz0 hz1 hz2 rfl (by decide) (.slice none 0 0) 0 _ rfl (HO.out.2.2.1.alloc _) (.slice (some ⟨x.heap.size, 0, none⟩) 1 1) 1 _ rfl (mono_sl x ⟨#[105]⟩ a) (mono_one ⟨#[105]⟩ a) (by unfold maxLen; omega) (by omega) (by have := HO.out.2.2.2.2; simp; omega) ?_; intro v1 w1 hown1 hg1 hat1 hnil1; obtain ⟨vb, vd, rfl⟩ := own_slice hown1; obtain ⟨d2, d3, HD2, HD3, HD4⟩ := HKEY.out w1 hg1; have HO1 := Lib.hid hown1; clear hown1 hg1 hat1 hnil1)
    obtain ⟨hf1, hf2⟩ := HO.out.done ⟨#[105]⟩ a HD2.out HD3.out HD4.out vb vd HO1.out
    replace HR := Lib.hid (HR.out.trans hf2)
    replace HO := Lib.hid hf1
    clear hf1 hf2 HO1 HD2 HD3 HD4 HKEY d2 d3 o0 o1 of ol
    obtain ⟨x', hx'⟩ : ∃ y, w1.setCell ⟨O, 1, none⟩ (.slice vb (0 + 1) vd) = y := ⟨_, rfl⟩
    rw [hx'] at HO HR
    try rw [Nat.zero_add] at hx'
    rw [hx']
    clear hx'
    try rw [Nat.zero_add] at HO
    simp only [List.nil_append, List.cons_append] at HO
    obtain ⟨o0, o1, of, ol⟩ := HO.out.cells
    have HUX := Lib.hid (UpRow.up HU0.out (by rw [HS.out]; omega) (by omega) HR.out)
    have r0 := (HR.out.cell S 0 (by omega) (by omega)).trans HR0.out
    have r1 := (HR.out.cell S 1 (by omega) (by omega)).trans HR1.out
    have rf : ∀ o, x'.frozen? ⟨S, o, none⟩ = false := fun o => (HR.out.frozen2 S o (by omega) (by omega)).trans (HRF.out o)
    have rs : S < x'.heap.size := by omega
    go_wp2
    refine bodyPost_ret (v := .agg #[.int .i64 k, .slice vb 1 vd]) (by first | (simp [results, Tryd.results34, go_sem, r0, r1]; done) | (simp [results, Tryd.results34, go_sem, r0, r1, rs]; done) | go_simp) rfl ?_
    refine ⟨⟨.slice vb 1 vd, rfl, ?_⟩, by repeat (first | exact HUX.out | refine HSET.out _ _ _ ?_)⟩
    rw [HFL.out]
    refine ⟨?_, HFL.out ▸ HRN.out, own_cap HO.out.2.2.1⟩
    refine SlAt.of_own (base := O + 1) (e := 56) (xs := monoCells [(⟨#[105]⟩, a)]) ?_ (by simp) (fun i j hi hj => monoCells_get _ i j hi hj)
    repeat (first | exact HO.out.2.2.1 | refine ownsRow_setCell_below ?_ (by show S < O + 1; omega) _)
  have hb1 : (b == 0) = false := by simpa using hb
  have HFL : Hid (formL a b = [(⟨#[105]⟩, a), (⟨#[106]⟩, b)]) := Lib.hid (by unfold formL; simp [ha, hb])
  go_enter Tryd.func34, Tryd.ntmps34
  go_upto_region 2 with fail
  try rw [HS.out]
  obtain ⟨x, hx⟩ : ∃ x, (w.alloc (.cells #[.int .i64 0, .slice none 0 0] 24)).alloc (.cells #[.int .i64 k, .slice none 0 0] 24) = x := ⟨_, rfl⟩
  obtain ⟨O, hO⟩ : ∃ O, S + 1 = O := ⟨_, rfl⟩
  have HO : Hid (OutAt x (O + 1) O k [] 0 none 0) := Lib.hid (by
    have h1 := heap_alloc_new (w.alloc (.cells #[.int .i64 0, .slice none 0 0] 24)) (.cells #[.int .i64 k, .slice none 0 0] 24)
    rw [size_alloc, HS.out, hO, hx] at h1
    exact ⟨rfl, h1, World.ownsRow_nil _ _ _ _, by omega, by rw [← hx, size_alloc, size_alloc, HS.out]; omega⟩)
  have HU0 : Hid (Up w x) := Lib.hid (hx ▸ ((Up.refl w).alloc _).alloc _)
  have hr : x.heap[S]? = some (.cells #[.int .i64 0, .slice none 0 0] 24 (0, 0)) := by
    rw [← hx, Below.heap_alloc _ _ _ (by rw [size_alloc, HS.out]; omega), ← HS.out]
    exact heap_alloc_new w _
  have HR0 : Hid (x.cell? ⟨S, 0, none⟩ = some (.int .i64 0)) := Lib.hid (cell_of_row _ _ _ _ _ _ hr)
  have HR1 : Hid (x.cell? ⟨S, 1, none⟩ = some (.slice none 0 0)) := Lib.hid (cell_of_row _ _ _ _ _ _ hr)
  have HRF : Hid (∀ o, x.frozen? ⟨S, o, none⟩ = false) := Lib.hid fun o => frozen_of_row _ _ _ _ _ hr
  rw [hx]
  try rw [hO]
  have HR := Lib.hid (UpRow.refl (O + 1) O x)
  have hSO : S < O := by omega
  have n1 : (S = O) = False := by simp; omega
  have n2 : (O = S) = False := by simp; omega
  clear hr hx hO
  obtain ⟨o0, o1, of, ol⟩ := HO.out.cells
  have HKEY := Lib.hid (HO.out.key ⟨#[105]⟩ a)
  go_upto_region 4 with (at_builtin; refine wpList_append_sl _ rfl _ _ 22 rfl (O + 1) 56 i0 _ 2 24 Tryd.underlying22 hi0 hz0 hz1 hz2 rfl (by decide) (.slice none 0 0) 0 _ rfl (HO.out.2.2.1.alloc _) (.slice (some ⟨x.heap.size, 0, none⟩) 1 1) 1 _ rfl (mono_sl x ⟨#[105]⟩ a) (mono_one ⟨#[105]⟩ a) (by unfold maxLen; omega) (by omega) (by have := HO.out.2.2.2.2; simp; omega) ?_; intro v1 w1 hown1 hg1 hat1 hnil1; obtain ⟨vb, vd, rfl⟩ := own_slice hown1; obtain ⟨d2, d3, HD2, HD3, HD4⟩ := HKEY.out w1 hg1; have HO1 := Lib.hid hown1; clear hown1 hg1 hat1 hnil1)
  obtain ⟨hf1, hf2⟩ := HO.out.done ⟨#[105]⟩ a HD2.out HD3.out HD4.out vb vd HO1.out
  replace HR := Lib.hid (HR.out.trans hf2)
  replace HO := Lib.hid hf1
  clear hf1 hf2 HO1 HD2 HD3 HD4 HKEY d2 d3 o0 o1 of ol
  obtain ⟨x', hx'⟩ : ∃ y, w1.setCell ⟨O, 1, none⟩ (.slice vb (0 + 1) vd) = y := ⟨_, rfl⟩
  rw [hx'] at HO HR
  try rw [Nat.zero_add] at hx'
  rw [hx']
  clear hx'
  try rw [Nat.zero_add] at HO
  simp only [List.nil_append, List.cons_append] at HO
  skip
  obtain ⟨o0, o1, of, ol⟩ := HO.out.cells
  have HKEY := Lib.hid (HO.out.key ⟨#[106]⟩ b)
  go_upto_region 6 with (at_builtin; refine wpList_append_sl _ rfl _ _ 22 rfl (O + 1) 56 i0 _ 2 24 Tryd.underlying22 hi0 hz0 hz1 hz2 rfl (by decide) (.slice vb 1 vd) 1 _ rfl (HO.out.2.2.1.alloc _) (.slice (some ⟨x'.heap.size, 0, none⟩) 1 1) 1 _ rfl (mono_sl x' ⟨#[106]⟩ b) (mono_one ⟨#[106]⟩ b) (by unfold maxLen; omega) (by omega) (by have := HO.out.2.2.2.2; simp; omega) ?_; intro v1 w1 hown1 hg1 hat1 hnil1; obtain ⟨vb, vd, rfl⟩ := own_slice hown1; obtain ⟨d2, d3, HD2, HD3, HD4⟩ := HKEY.out w1 hg1; have HO1 := Lib.hid hown1; clear hown1 hg1 hat1 hnil1)
  obtain ⟨hf1, hf2⟩ := HO.out.done ⟨#[106]⟩ b HD2.out HD3.out HD4.out vb vd HO1.out
  replace HR := Lib.hid (HR.out.trans hf2)
  replace HO := Lib.hid hf1
  clear hf1 hf2 HO1 HD2 HD3 HD4 HKEY d2 d3 o0 o1 of ol
  obtain ⟨x'', hx'⟩ : ∃ y, w1.setCell ⟨O, 1, none⟩ (.slice vb (1 + 1) vd) = y := ⟨_, rfl⟩
  rw [hx'] at HO HR
  try rw [Nat.zero_add] at hx'
  rw [hx']
  clear hx'
  try rw [Nat.zero_add] at HO
  simp only [List.nil_append, List.cons_append] at HO
  obtain ⟨o0, o1, of, ol⟩ := HO.out.cells
  have HUX := Lib.hid (UpRow.up HU0.out (by rw [HS.out]; omega) (by omega) HR.out)
  have r0 := (HR.out.cell S 0 (by omega) (by omega)).trans HR0.out
  have r1 := (HR.out.cell S 1 (by omega) (by omega)).trans HR1.out
  have rf : ∀ o, x''.frozen? ⟨S, o, none⟩ = false := fun o => (HR.out.frozen2 S o (by omega) (by omega)).trans (HRF.out o)
  have rs : S < x''.heap.size := by omega
  go_wp2
  refine bodyPost_ret (v := .agg #[.int .i64 k, .slice vb 2 vd]) (by first | (simp [results, Tryd.results34, go_sem, r0, r1]; done) | (simp [results, Tryd.results34, go_sem, r0, r1, rs]; done) | go_simp) rfl ?_
  refine ⟨⟨.slice vb 2 vd, rfl, ?_⟩, by repeat (first | exact HUX.out | refine HSET.out _ _ _ ?_)⟩
  rw [HFL.out]
  refine ⟨?_, HFL.out ▸ HRN.out, own_cap HO.out.2.2.1⟩
  refine SlAt.of_own (base := O + 1) (e := 56) (xs := monoCells [(⟨#[105]⟩, a), (⟨#[106]⟩, b)]) ?_ (by simp) (fun i j hi hj => monoCells_get _ i j hi hj)
  repeat (first | exact HO.out.2.2.1 | refine ownsRow_setCell_below ?_ (by show S < O + 1; omega) _)
end Go.Proofs.YtahlecmlhdikjaaDoor
end

section
namespace Go.Proofs.YtahlecmlhdikjaaDoor
open Go.ChangeShapes Go.WideShapes Go.ChangeAt Go.RowKit
set_option linter.unusedVariables false
set_option linter.unusedSimpArgs false
set_option maxRecDepth 100000

def consEq (cs cs' : List Con) : Bool := decide (cs = cs')
theorem consEq_cons (c c' : Con) (cs cs' : List Con) : consEq (c :: cs) (c' :: cs') = (conEq c c' && consEq cs cs') := by
  rw [Bool.eq_iff_iff]
  unfold consEq
  rw [Bool.and_eq_true, conEq_iff, decide_eq_true_iff, decide_eq_true_iff]
  exact ⟨fun h => by cases h; exact ⟨rfl, rfl⟩, fun ⟨h1, h2⟩ => by rw [h1, h2]⟩

set_option maxHeartbeats 4000000 in
theorem base_Cons (v v' : Value) (cs cs' : List Con) (w : World) (hv : ConsAt w v cs) (hv' : ConsAt w v' cs') :
    Calls Tryd.prog 22 #[v, v'] w fun e w' => e = .returned (.bool (consEq cs cs')) ∧ Up w w' := by
  obtain ⟨r, hr⟩ : ∃ r, consEq cs cs' = r := ⟨_, rfl⟩
  rw [hr]
  obtain ⟨⟨a, cap, rfl⟩, hmax⟩ := hv.slice
  obtain ⟨⟨a', cap', rfl⟩, hmax'⟩ := hv'.slice
  obtain ⟨n, hn⟩ : ∃ n, cs.length = n := ⟨_, rfl⟩
  obtain ⟨n', hn'⟩ : ∃ n', cs'.length = n' := ⟨_, rfl⟩
  rw [hn] at hmax ⊢
  rw [hn'] at hmax' ⊢
  have hmI : (n : Int) ≤ 9223372036854775807 := by omega
  have hmI' : (n' : Int) ≤ 9223372036854775807 := by omega
  have HV := Lib.hid hv
  have HV' := Lib.hid hv'
  have HN := Lib.hid hn
  have HN' := Lib.hid hn'
  have HR := Lib.hid hr
  clear hv hv' hn hn' hr
  by_cases hnn : n = n'
  · have HNN := Lib.hid hnn
    obtain rfl := hnn
    go_enter Tryd.func22, Tryd.ntmps22
    go_wp2
    go_loopw [5] (fun iv wr => ∃ i : Nat, i ≤ n ∧ iv = .int .i64 i ∧ Up w wr ∧ consEq (cs.drop i) (cs'.drop i) = r) (fun iv _ => n - (intOf iv).toNat)
    case atStart => exact ⟨0, by omega, rfl, Up.refl _, by rw [List.drop_zero, List.drop_zero]; exact HR.out⟩
    case round =>
      rename World => wr
      obtain ⟨i, hi, rfl, hU, hP⟩ := hrel
      have HU := Lib.hid hU
      have HP := Lib.hid hP
      clear hU hP
      by_cases hlt : i < n
      · have hltI : (i : Int) < n := by omega
        have hi0 : (0 : Int) ≤ (i : Int) := by omega
        obtain ⟨bl, off, lv, K, l, b, ha, hbl, hg, k0, k1, k2, hp, hK⟩ := HV.out.elem HU.out i (by rw [HN.out]; exact hlt) HN.out (by first | rfl | rw [HN.out])
        obtain ⟨bl', off', lv', K', l', b', ha', hbl', hg', k0', k1', k2', hp', hK'⟩ := HV'.out.elem HU.out i (by rw [HN'.out]; exact hlt) HN'.out (by first | rfl | rw [HN'.out])
        subst ha ha'
        have HP2 : Hid ((conEq (K, l, b) (K', l', b') && consEq (cs.drop (i + 1)) (cs'.drop (i + 1))) = r) := Lib.hid (by
          rw [← HP.out, con_getD (by rw [HN.out]; exact hlt) hg, con_getD (by rw [HN'.out]; exact hlt) hg', consEq_cons])
        obtain ⟨q, hq⟩ : ∃ q, conEq (K, l, b) (K', l', b') = q := ⟨_, rfl⟩
        rw [hq] at HP2
        have HPA := Lib.hid hp
        have HPA' := Lib.hid hp'
        obtain ⟨al, capl, rfl⟩ := hp.1.slice
        obtain ⟨al', capl', rfl⟩ := hp'.1.slice
        obtain ⟨nl, hnl⟩ : ∃ n, l.length = n := ⟨_, rfl⟩
        obtain ⟨nl', hnl'⟩ : ∃ n, l'.length = n := ⟨_, rfl⟩
        rw [hnl] at k1 HPA
        rw [hnl'] at k1' HPA'
        have HC : Hid (∀ x : Ext wr, Calls Tryd.prog 17 #[.agg #[.int .i64 K, .slice al nl capl, .bool b], .agg #[.int .i64 K', .slice al' nl' capl', .bool b']] x.w fun e w' => e = .returned (.bool q) ∧ Up x.w w') := Lib.hid fun x => hq ▸ base_Con K K' _ _ l l' b b' x.w (HPA.out.1.up x.up) (HPA'.out.1.up x.up)
        have hb1 : bl < wr.heap.size := Nat.lt_of_lt_of_le hbl HU.out.size
        have hb2 : bl' < wr.heap.size := Nat.lt_of_lt_of_le hbl' HU.out.size
        clear hg hg' hp hp' hK hK' hq hnl hnl' hbl hbl' HP
        go_wp2_with fail
        refine wp_region_ext (by kernel_rfl) (by kernel_rfl) ?_
        repeat (go_big_quiet_step ((go_at_call 17; exact Calls.ext_of (HC.out _))))
        refine wpQuiet_nil ?_
        intro x hx
        have HUX := Lib.hid (HU.out.trans hx)
        clear hx HC
        cases q
        · have HG : Hid (false = r) := Lib.hid (by rw [← HP2.out]; rfl)
          go_wp2
          go_ret
          exact ⟨ret_bool HG.out, HUX.out⟩
        · have HG : Hid (consEq (cs.drop (i + 1)) (cs'.drop (i + 1)) = r) := Lib.hid (by rw [← HP2.out, Bool.true_and])
          go_wp2
          go_roundw
          case rel => exact ⟨i + 1, by omega, by go_num, HUX.out, HG.out⟩
          case measure => simp [intOf]; omega
      · obtain rfl : i = n := by omega
        have HG : Hid (true = r) := Lib.hid (by rw [← HP.out, List.drop_eq_nil_of_le (show cs.length ≤ i by rw [HN.out]; exact Nat.le_refl _), List.drop_eq_nil_of_le (show cs'.length ≤ i by rw [HN'.out]; exact Nat.le_refl _)]; rfl)
        go_wp2
        go_ret
        exact ⟨ret_bool HG.out, HU.out⟩
  · have h1 : ((n : Int) == (n' : Int)) = false := by simpa using (by omega : ¬ (n : Int) = (n' : Int))
    have HG : Hid (false = r) := Lib.hid (by
      rw [← HR.out]
      unfold consEq
      refine (decide_eq_false fun e => hnn ?_).symm
      rw [← HN.out, ← HN'.out, e])
    go_enter Tryd.func22, Tryd.ntmps22
    go_wp2
    go_ret
    exact ⟨ret_bool HG.out, Up.refl w⟩

def names100 (l : List Mono) : Bool := l.all fun m => decide (m.1.size ≤ 100)
def smallK (c : Con) : Bool := decide (c.2.1.length ≤ 40) && names100 c.2.1
def smallC (cs : List Con) (most : Nat) : Bool := decide (cs.length ≤ most) && cs.all smallK
theorem names100_cons (m : Mono) (r : List Mono) : names100 (m :: r) = (decide (m.1.size ≤ 100) && names100 r) := rfl
def allS (cs : List Con) : Bool := cs.all smallK
theorem allS_cons (c : Con) (r : List Con) : allS (c :: r) = (smallK c && allS r) := rfl

set_option maxHeartbeats 4000000 in
theorem law_Small (v : Value) (cs : List Con) (most : Nat) (w : World) (hv : ConsAt w v cs) (hmost : most ≤ 1000) :
    Calls Tryd.prog 13 #[v, .int .i64 (most : Int)] w fun e w' => e = .returned (.bool (smallC cs most)) ∧ Up w w' := by
  obtain ⟨r, hr⟩ : ∃ r, smallC cs most = r := ⟨_, rfl⟩
  rw [hr]
  obtain ⟨⟨a, cap, rfl⟩, hmax⟩ := hv.slice
  obtain ⟨n, hn⟩ : ∃ n, cs.length = n := ⟨_, rfl⟩
  rw [hn] at hmax ⊢
  have HV := Lib.hid hv
  have HN := Lib.hid hn
  have HR : Hid ((decide (n ≤ most) && allS cs) = r) := Lib.hid (by rw [← hr, ← hn]; rfl)
  clear hv hn hr
  by_cases hnm : n ≤ most
  · have hnI : (n : Int) ≤ (most : Int) := by omega
    have hn1 : (n : Int) ≤ 1000 := by omega
    have HRR : Hid (allS cs = r) := Lib.hid (by have := HR.out; rw [show decide (n ≤ most) = true by simpa using hnm, Bool.true_and] at this; exact this)
    go_enter Tryd.func13, Tryd.ntmps13
    go_wp2
    go_loopw [5] (fun iv wr => ∃ i : Nat, i ≤ n ∧ iv = .int .i64 i ∧ Up w wr ∧ allS (cs.drop i) = r) (fun iv _ => n - (intOf iv).toNat)
    case atStart => exact ⟨0, by omega, rfl, Up.refl _, by rw [List.drop_zero]; exact HRR.out⟩
    case round =>
      rename World => wo
      obtain ⟨i, hi, rfl, hU, hP⟩ := hrel
      have HU := Lib.hid hU
      have HP := Lib.hid hP
      clear hU hP
      by_cases hlt : i < n
      · have hltI : (i : Int) < n := by omega
        have hi0 : (0 : Int) ≤ (i : Int) := by omega
        obtain ⟨bl, off, lv, K, l, b, ha, hbl, hg, k0, k1, k2, hp, hK⟩ := HV.out.elem HU.out i (by rw [HN.out]; exact hlt) HN.out (by first | rfl | rw [HN.out])
        subst ha
        have HP2 : Hid ((decide (l.length ≤ 40) && names100 l && allS (cs.drop (i + 1))) = r) := Lib.hid (by
          rw [← HP.out, con_getD (by rw [HN.out]; exact hlt) hg, allS_cons]; rfl)
        have HPA := Lib.hid hp
        obtain ⟨al, capl, rfl⟩ := hp.1.slice
        obtain ⟨nl, hnl⟩ : ∃ n, l.length = n := ⟨_, rfl⟩
        rw [hnl] at k1 HPA HP2
        have HNL := Lib.hid hnl
        have hmx : nl ≤ 9223372036854775807 := hnl ▸ hp.1.max
        have hmxI : (nl : Int) ≤ 9223372036854775807 := by omega
        have hb1 : bl < wo.heap.size := Nat.lt_of_lt_of_le hbl HU.out.size
        clear hg hp hK hnl hbl HP
        by_cases h40 : nl ≤ 40
        · have h40I : (nl : Int) ≤ 40 := by omega
          have HP3 : Hid ((names100 l && allS (cs.drop (i + 1))) = r) := Lib.hid (by have := HP2.out; rw [show decide (nl ≤ 40) = true by simpa using h40, Bool.true_and] at this; exact this)
          clear HP2
          go_wp2
          go_loopw [6] (fun jv wr => ∃ j : Nat, j ≤ nl ∧ jv = .int .i64 j ∧ Up wo wr ∧ (names100 (l.drop j) && allS (cs.drop (i + 1))) = r) (fun jv _ => nl - (intOf jv).toNat)
          case atStart => exact ⟨0, by omega, rfl, Up.refl _, by rw [List.drop_zero]; exact HP3.out⟩
          case round =>
            rename World => wr
            obtain ⟨j, hj, rfl, hU2, hP⟩ := hrel
            have HU2 := Lib.hid hU2
            have HP := Lib.hid hP
            replace k1 := (hU2.cell _ _ hb1).trans k1
            clear hU2 hP
            by_cases hlt2 : j < nl
            · have hltJ : (j : Int) < nl := by omega
              have hj0 : (0 : Int) ≤ (j : Int) := by omega
              obtain ⟨bm, om, s, y, rfl, p1, p2, p3, p4⟩ := HPA.out.1.elem HU2.out j (by rw [HNL.out]; exact hlt2) HNL.out rfl
              have HP4 : Hid ((decide (s.size ≤ 100) && names100 (l.drop (j + 1)) && allS (cs.drop (i + 1))) = r) := Lib.hid (by
                rw [← HP.out, drop_mono (by rw [HNL.out]; exact hlt2) p2, names100_cons])
              clear p2 HP
              by_cases hs : s.size ≤ 100
              · have hsI : (s.size : Int) ≤ 100 := by omega
                have HG : Hid ((names100 (l.drop (j + 1)) && allS (cs.drop (i + 1))) = r) := Lib.hid (by have := HP4.out; rw [show decide (s.size ≤ 100) = true by simpa using hs, Bool.true_and] at this; exact this)
                go_wp2
                go_roundw
                case rel => exact ⟨j + 1, by omega, by go_num, HU2.out, HG.out⟩
                case measure => simp [intOf]; omega
              · have hsI : (100 : Int) < (s.size : Int) := by omega
                have HG : Hid (false = r) := Lib.hid (by have := HP4.out; rw [show decide (s.size ≤ 100) = false by simpa using hs] at this; exact this)
                have HUX := Lib.hid (HU.out.trans HU2.out)
                go_wp2
                go_ret
                exact ⟨ret_bool HG.out, HUX.out⟩
            · obtain rfl : j = nl := by omega
              have HG : Hid (allS (cs.drop (i + 1)) = r) := Lib.hid (by
                have := HP.out
                rw [List.drop_eq_nil_of_le (show l.length ≤ j by rw [HNL.out]; exact Nat.le_refl _)] at this
                exact this)
              have HUX := Lib.hid (HU.out.trans HU2.out)
              go_wp2
              go_roundw
              case rel => exact ⟨i + 1, by omega, by go_num, HUX.out, HG.out⟩
              case measure => simp [intOf]; omega
        · have h40I : (40 : Int) < (nl : Int) := by omega
          have HG : Hid (false = r) := Lib.hid (by have := HP2.out; rw [show decide (nl ≤ 40) = false by simpa using h40] at this; exact this)
          go_wp2
          go_ret
          exact ⟨ret_bool HG.out, HU.out⟩
      · obtain rfl : i = n := by omega
        have HG : Hid (true = r) := Lib.hid (by rw [← HP.out, List.drop_eq_nil_of_le (show cs.length ≤ i by rw [HN.out]; exact Nat.le_refl _)]; rfl)
        go_wp2
        go_ret
        exact ⟨ret_bool HG.out, HU.out⟩
  · have hnI : (most : Int) < (n : Int) := by omega
    have HG : Hid (false = r) := Lib.hid (by have := HR.out; rw [show decide (n ≤ most) = false by simpa using hnm] at this; exact this)
    go_enter Tryd.func13, Tryd.ntmps13
    go_wp2
    go_ret
    exact ⟨ret_bool HG.out, Up.refl w⟩
end Go.Proofs.YtahlecmlhdikjaaDoor
end
