/-
  The reference's Add, plain: sorted names, their coefficients; and its equality with merge. No program is named here.
-/
import Derived.Test.YtahlecmlhdikjaaDoorGd
import Derived.Test.YtahlecmlhdikjaaDoorLinK

namespace Go.Proofs.YtahlecmlhdikjaaDoor
open Go.ChangeShapes Go.WideShapes Go.ChangeAt Go.RowKit
set_option linter.unusedVariables false

/-- Names in strictly ascending order, behind p. -/
def ascN : Option (List UInt8) → List ByteArray → Bool
  | _, [] => true
  | p, s :: r => prevOk p s.toList && ascN (some s.toList) r
def insS (s : ByteArray) : List ByteArray → List ByteArray
  | [] => [s]
  | x :: r => if x.toList == s.toList then x :: r else if Op.bytesLess s.toList x.toList then s :: x :: r else x :: insS s r
def nameF (ns : List ByteArray) (l : List Mono) : List ByteArray := l.foldl (fun a m => insS m.1 a) ns
def namesF (ls : List (List Mono)) : List ByteArray := ls.foldl nameF []

theorem beq_toList {s t : ByteArray} : (s.toList == t.toList) = true ↔ s = t := by
  rw [beq_iff_eq]; exact ⟨toList_inj, fun h => by rw [h]⟩
theorem mem_insS (s t : ByteArray) : ∀ l : List ByteArray, t ∈ insS s l ↔ t = s ∨ t ∈ l
  | [] => by simp [insS]
  | x :: r => by
    unfold insS
    split
    · rename_i h
      have := beq_toList.1 h
      subst this
      simp
    · split
      · simp
      · rw [List.mem_cons, mem_insS s t r, List.mem_cons]
        constructor <;> rintro (h | h | h) <;> simp_all
theorem asc_cons (p : Option (List UInt8)) (s : ByteArray) (r : List ByteArray) : ascN p (s :: r) = true ↔ prevOk p s.toList = true ∧ ascN (some s.toList) r = true := by
  show (prevOk p s.toList && ascN (some s.toList) r) = true ↔ _
  simp
theorem insS_asc (s : ByteArray) : ∀ (l : List ByteArray) (p : Option (List UInt8)), ascN p l = true → prevOk p s.toList = true → ascN p (insS s l) = true
  | [], p, _, h => by unfold insS; exact (asc_cons _ _ _).2 ⟨h, rfl⟩
  | x :: r, p, h, g => by
    obtain ⟨h1, h2⟩ := (asc_cons _ _ _).1 h
    unfold insS
    split
    · exact h
    · rename_i hx
      split
      · rename_i hl
        exact (asc_cons _ _ _).2 ⟨g, (asc_cons _ _ _).2 ⟨hl, h2⟩⟩
      · rename_i hl
        refine (asc_cons _ _ _).2 ⟨h1, insS_asc s r _ h2 ?_⟩
        cases hb : Op.bytesLess x.toList s.toList
        · exact absurd (beq_toList.2 (toList_inj (bl_total _ _ hb (by simpa using hl)))) hx
        · exact hb
theorem asc_mem {q : List UInt8} : ∀ (l : List ByteArray), ascN (some q) l = true → ∀ t ∈ l, Op.bytesLess q t.toList = true
  | [], _, t, ht => by cases ht
  | x :: r, h, t, ht => by
    obtain ⟨h1, h2⟩ := (asc_cons _ _ _).1 h
    rcases List.mem_cons.1 ht with rfl | ht
    · exact h1
    · exact bl_trans _ _ _ h1 (asc_mem r h2 t ht)
/-- Two ascending lists of the same names are equal. -/
theorem asc_unique : ∀ (l l' : List ByteArray) (p p' : Option (List UInt8)), ascN p l = true → ascN p' l' = true → (∀ t, t ∈ l ↔ t ∈ l') → l = l'
  | [], [], _, _, _, _, _ => rfl
  | [], y :: r', _, _, _, _, h => absurd ((h y).2 (by simp)) (by simp)
  | x :: r, [], _, _, _, _, h => absurd ((h x).1 (by simp)) (by simp)
  | x :: r, y :: r', p, p', h1, h2, h => by
    obtain ⟨a1, a2⟩ := (asc_cons _ _ _).1 h1
    obtain ⟨b1, b2⟩ := (asc_cons _ _ _).1 h2
    have hxy : x = y := by
      rcases List.mem_cons.1 ((h x).1 (by simp)) with e | e
      · exact e
      · rcases List.mem_cons.1 ((h y).2 (by simp)) with f | f
        · exact f.symm
        · have g1 := asc_mem r' b2 x e
          have g2 := asc_mem r a2 y f
          rw [bl_asymm _ _ g1] at g2; cases g2
    subst hxy
    congr 1
    refine asc_unique r r' _ _ a2 b2 fun t => ⟨fun ht => ?_, fun ht => ?_⟩
    · rcases List.mem_cons.1 ((h t).1 (by simp [ht])) with e | e
      · subst e; have := asc_mem r a2 t ht; rw [bl_irrefl] at this; cases this
      · exact e
    · rcases List.mem_cons.1 ((h t).2 (by simp [ht])) with e | e
      · subst e; have := asc_mem r' b2 t ht; rw [bl_irrefl] at this; cases this
      · exact e
theorem nameF_asc : ∀ (l : List Mono) (ns : List ByteArray), ascN none ns = true → ascN none (nameF ns l) = true
  | [], _, h => h
  | m :: r, ns, h => nameF_asc r _ (insS_asc m.1 ns none h rfl)
theorem mem_nameF (t : ByteArray) : ∀ (l : List Mono) (ns : List ByteArray), t ∈ nameF ns l ↔ t ∈ ns ∨ ∃ m ∈ l, m.1 = t
  | [], ns => by simp [nameF]
  | m :: r, ns => by
    show t ∈ nameF (insS m.1 ns) r ↔ _
    rw [mem_nameF t r, mem_insS]
    constructor
    · rintro ((rfl | h) | ⟨m', h1, h2⟩)
      · exact Or.inr ⟨m, by simp, rfl⟩
      · exact Or.inl h
      · exact Or.inr ⟨m', by simp [h1], h2⟩
    · rintro (h | ⟨m', h1, h2⟩)
      · exact Or.inl (Or.inr h)
      · rcases List.mem_cons.1 h1 with rfl | h1
        · exact Or.inl (Or.inl h2.symm)
        · exact Or.inr ⟨m', h1, h2⟩
theorem foldName_asc : ∀ (ls : List (List Mono)) (ns : List ByteArray), ascN none ns = true → ascN none (ls.foldl nameF ns) = true
  | [], _, h => h
  | l :: r, ns, h => foldName_asc r _ (nameF_asc l ns h)
theorem mem_foldName (t : ByteArray) : ∀ (ls : List (List Mono)) (ns : List ByteArray), t ∈ ls.foldl nameF ns ↔ t ∈ ns ∨ ∃ l ∈ ls, ∃ m ∈ l, m.1 = t
  | [], ns => by simp
  | l :: r, ns => by
    rw [List.foldl_cons, mem_foldName t r, mem_nameF]
    constructor
    · rintro ((h | h) | ⟨l', h1, h2⟩)
      · exact Or.inl h
      · exact Or.inr ⟨l, by simp, h⟩
      · exact Or.inr ⟨l', by simp [h1], h2⟩
    · rintro (h | ⟨l', h1, h2⟩)
      · exact Or.inl (Or.inl h)
      · rcases List.mem_cons.1 h1 with rfl | h1
        · exact Or.inl (Or.inr h2)
        · exact Or.inr ⟨l', h1, h2⟩

/-- The names of two ascending lists with their coefficients, as merge meets them. -/
def mergeN : List Mono → List Mono → List (ByteArray × Int × Int)
  | [], [] => []
  | m :: r, [] => (m.1, m.2, 0) :: mergeN r []
  | [], m' :: r' => (m'.1, 0, m'.2) :: mergeN [] r'
  | m :: r, m' :: r' =>
    if Op.bytesLess m.1.toList m'.1.toList then (m.1, m.2, 0) :: mergeN r (m' :: r')
    else if Op.bytesLess m'.1.toList m.1.toList then (m'.1, 0, m'.2) :: mergeN (m :: r) r'
    else (m.1, m.2, m'.2) :: mergeN r r'
termination_by l l' => l.length + l'.length
def stepT (a : List Mono × Bool) (t : ByteArray × Int × Int) : List Mono × Bool := stepA a t.1 t.2.1 t.2.2
theorem merge_fold (l l' : List Mono) (acc : List Mono × Bool) : mergeF l l' acc = (mergeN l l').foldl stepT acc := by
  induction l, l', acc using mergeF.induct with
  | case1 acc => rw [mergeF, mergeN]; rfl
  | case2 m r acc ih => rw [mergeF, ih, mergeN]; rfl
  | case3 m' r' acc ih => rw [mergeF, ih, mergeN]; rfl
  | case4 m r m' r' acc hc ih => rw [mergeF, if_pos hc, ih, mergeN, if_pos hc]; rfl
  | case5 m r m' r' acc hc hd ih => rw [mergeF, if_neg hc, if_pos hd, ih, mergeN, if_neg hc, if_pos hd]; rfl
  | case6 m r m' r' acc hc hd ih => rw [mergeF, if_neg hc, if_neg hd, ih, mergeN, if_neg hc, if_neg hd]; rfl
theorem coef_none (s : List UInt8) : ∀ (l : List Mono) (q : List UInt8), okFrom (some q) l = true → (q = s ∨ Op.bytesLess s q = true) → coefF s l = 0
  | [], _, _, _ => rfl
  | m :: r, q, h, g => by
    obtain ⟨h1, h2, h3, h4⟩ := (okFrom_cons _ _ _).1 h
    have h3' : Op.bytesLess q m.1.toList = true := h3
    have hl : Op.bytesLess s m.1.toList = true := by
      rcases g with rfl | g
      · exact h3'
      · exact bl_trans _ _ _ g h3'
    have hne : (m.1.toList == s) = false := by
      rw [beq_eq_false_iff_ne]; intro e; rw [e, bl_irrefl] at hl; cases hl
    show (if m.1.toList == s then m.2 else coefF s r) = 0
    rw [hne]
    exact coef_none s r _ h4 (Or.inr hl)
theorem coef_head (m : Mono) (r : List Mono) : coefF m.1.toList (m :: r) = m.2 := by
  show (if m.1.toList == m.1.toList then m.2 else _) = _
  rw [if_pos (beq_self_eq_true _)]
theorem coef_tail {m : Mono} {s : List UInt8} (r : List Mono) (h : Op.bytesLess m.1.toList s = true) : coefF s (m :: r) = coefF s r := by
  show (if m.1.toList == s then m.2 else coefF s r) = _
  rw [if_neg]
  intro e
  rw [beq_iff_eq] at e
  rw [e, bl_irrefl] at h; cases h

/-- What merge meets. -/
structure MN (p : Option (List UInt8)) (l l' : List Mono) : Prop where
  asc : ascN p ((mergeN l l').map (·.1)) = true
  mem : ∀ t, t ∈ (mergeN l l').map (·.1) ↔ (∃ m ∈ l, m.1 = t) ∨ ∃ m ∈ l', m.1 = t
  coef : ∀ t ∈ mergeN l l', t.2.1 = coefF t.1.toList l ∧ t.2.2 = coefF t.1.toList l'
theorem MN.far {q : List UInt8} {l l' : List Mono} (h : MN (some q) l l') : ∀ t ∈ mergeN l l', Op.bytesLess q t.1.toList = true := fun t ht => asc_mem _ h.asc t.1 (List.mem_map.2 ⟨t, ht, rfl⟩)
theorem mergeN_facts (l l' : List Mono) : ∀ p, okFrom p l = true → okFrom p l' = true → MN p l l' := by
  induction l, l' using mergeN.induct with
  | case1 => intro p _ _; exact ⟨by rw [mergeN]; rfl, by rw [mergeN]; simp, by rw [mergeN]; intro t ht; cases ht⟩
  | case2 m r ih =>
    intro p h h'
    obtain ⟨h1, h2, h3, h4⟩ := (okFrom_cons _ _ _).1 h
    have g := ih (some m.1.toList) h4 rfl
    refine ⟨?_, ?_, ?_⟩
    · rw [mergeN]; exact (asc_cons _ _ _).2 ⟨h3, g.asc⟩
    · intro t; rw [mergeN, List.map_cons, List.mem_cons, g.mem]; simp [eq_comm]
    · intro t ht
      rw [mergeN] at ht
      rcases List.mem_cons.1 ht with rfl | ht
      · exact ⟨(coef_head m r).symm, rfl⟩
      · obtain ⟨e1, e2⟩ := g.coef t ht
        exact ⟨by rw [coef_tail r (g.far t ht)]; exact e1, e2⟩
  | case3 m' r' ih =>
    intro p h h'
    obtain ⟨h1, h2, h3, h4⟩ := (okFrom_cons _ _ _).1 h'
    have g := ih (some m'.1.toList) rfl h4
    refine ⟨?_, ?_, ?_⟩
    · rw [mergeN]; exact (asc_cons _ _ _).2 ⟨h3, g.asc⟩
    · intro t; rw [mergeN, List.map_cons, List.mem_cons, g.mem]; simp [eq_comm]
    · intro t ht
      rw [mergeN] at ht
      rcases List.mem_cons.1 ht with rfl | ht
      · exact ⟨rfl, (coef_head m' r').symm⟩
      · obtain ⟨e1, e2⟩ := g.coef t ht
        exact ⟨e1, by rw [coef_tail r' (g.far t ht)]; exact e2⟩
  | case4 m r m' r' hc ih =>
    intro p h h'
    obtain ⟨h1, h2, h3, h4⟩ := (okFrom_cons _ _ _).1 h
    obtain ⟨k1, k2, k3, k4⟩ := (okFrom_cons _ _ _).1 h'
    have g := ih (some m.1.toList) h4 ((okFrom_cons _ _ _).2 ⟨k1, k2, hc, k4⟩)
    have hno : coefF m.1.toList (m' :: r') = 0 := coef_none _ _ m.1.toList ((okFrom_cons _ _ _).2 ⟨k1, k2, hc, k4⟩) (Or.inl rfl)
    refine ⟨?_, ?_, ?_⟩
    · rw [mergeN, if_pos hc]; exact (asc_cons _ _ _).2 ⟨h3, g.asc⟩
    · intro t; rw [mergeN, if_pos hc, List.map_cons, List.mem_cons, g.mem]
      constructor
      · rintro (rfl | ⟨x, hx, e⟩ | hx)
        · exact Or.inl ⟨m, by simp, rfl⟩
        · exact Or.inl ⟨x, by simp [hx], e⟩
        · exact Or.inr hx
      · rintro (⟨x, hx, e⟩ | hx)
        · rcases List.mem_cons.1 hx with rfl | hx
          · exact Or.inl e.symm
          · exact Or.inr (Or.inl ⟨x, hx, e⟩)
        · exact Or.inr (Or.inr hx)
    · intro t ht
      rw [mergeN, if_pos hc] at ht
      rcases List.mem_cons.1 ht with rfl | ht
      · exact ⟨(coef_head m r).symm, hno.symm⟩
      · obtain ⟨e1, e2⟩ := g.coef t ht
        exact ⟨by rw [coef_tail r (g.far t ht)]; exact e1, e2⟩
  | case5 m r m' r' hc hd ih =>
    intro p h h'
    obtain ⟨h1, h2, h3, h4⟩ := (okFrom_cons _ _ _).1 h
    obtain ⟨k1, k2, k3, k4⟩ := (okFrom_cons _ _ _).1 h'
    have hok := (okFrom_cons (some m'.1.toList) m r).2 ⟨h1, h2, hd, h4⟩
    have g := ih (some m'.1.toList) hok k4
    have hno : coefF m'.1.toList (m :: r) = 0 := coef_none _ _ m'.1.toList hok (Or.inl rfl)
    refine ⟨?_, ?_, ?_⟩
    · rw [mergeN, if_neg hc, if_pos hd]; exact (asc_cons _ _ _).2 ⟨k3, g.asc⟩
    · intro t; rw [mergeN, if_neg hc, if_pos hd, List.map_cons, List.mem_cons, g.mem]
      constructor
      · rintro (rfl | hx | ⟨x, hx, e⟩)
        · exact Or.inr ⟨m', by simp, rfl⟩
        · exact Or.inl hx
        · exact Or.inr ⟨x, by simp [hx], e⟩
      · rintro (hx | ⟨x, hx, e⟩)
        · exact Or.inr (Or.inl hx)
        · rcases List.mem_cons.1 hx with rfl | hx
          · exact Or.inl e.symm
          · exact Or.inr (Or.inr ⟨x, hx, e⟩)
    · intro t ht
      rw [mergeN, if_neg hc, if_pos hd] at ht
      rcases List.mem_cons.1 ht with rfl | ht
      · exact ⟨hno.symm, (coef_head m' r').symm⟩
      · obtain ⟨e1, e2⟩ := g.coef t ht
        exact ⟨e1, by rw [coef_tail r' (g.far t ht)]; exact e2⟩
  | case6 m r m' r' hc hd ih =>
    intro p h h'
    obtain ⟨h1, h2, h3, h4⟩ := (okFrom_cons _ _ _).1 h
    obtain ⟨k1, k2, k3, k4⟩ := (okFrom_cons _ _ _).1 h'
    have e := name_eq hc hd
    have g := ih (some m.1.toList) h4 (by rw [e]; exact k4)
    refine ⟨?_, ?_, ?_⟩
    · rw [mergeN, if_neg hc, if_neg hd]; exact (asc_cons _ _ _).2 ⟨h3, g.asc⟩
    · intro t; rw [mergeN, if_neg hc, if_neg hd, List.map_cons, List.mem_cons, g.mem]
      constructor
      · rintro (rfl | ⟨x, hx, f⟩ | ⟨x, hx, f⟩)
        · exact Or.inl ⟨m, by simp, rfl⟩
        · exact Or.inl ⟨x, by simp [hx], f⟩
        · exact Or.inr ⟨x, by simp [hx], f⟩
      · rintro (⟨x, hx, f⟩ | ⟨x, hx, f⟩)
        · rcases List.mem_cons.1 hx with rfl | hx
          · exact Or.inl f.symm
          · exact Or.inr (Or.inl ⟨x, hx, f⟩)
        · rcases List.mem_cons.1 hx with rfl | hx
          · exact Or.inl (by rw [← f, e])
          · exact Or.inr (Or.inr ⟨x, hx, f⟩)
    · intro t ht
      rw [mergeN, if_neg hc, if_neg hd] at ht
      rcases List.mem_cons.1 ht with rfl | ht
      · refine ⟨(coef_head m r).symm, ?_⟩
        have := coef_head m' r'
        rw [← e] at this; exact this.symm
      · obtain ⟨e1, e2⟩ := g.coef t ht
        have f := g.far t ht
        exact ⟨by rw [coef_tail r f]; exact e1, by rw [coef_tail r' (by rw [← e]; exact f)]; exact e2⟩

def outN (l l' : List Mono) (ns : List ByteArray) : List Mono := ns.flatMap fun s => putM s (coefF s.toList l + coefF s.toList l') []
def fitN (l l' : List Mono) (ns : List ByteArray) : Bool := ns.all fun s => fitB (coefF s.toList l + coefF s.toList l')
def addRF (K : Int) (l : List Mono) (K' : Int) (l' : List Mono) : Int × List Mono × Int :=
  if okL l && okL l' then (if fitB (K + K') && fitN l l' (namesF [l, l']) then (K + K', outN l l' (namesF [l, l']), 0) else (0, [], 3)) else (0, [], 1)

theorem names_merge {l l' : List Mono} (h : okL l = true) (h' : okL l' = true) : namesF [l, l'] = (mergeN l l').map (·.1) := by
  have g := mergeN_facts l l' none h h'
  refine asc_unique _ _ none none (foldName_asc _ _ rfl) g.asc fun t => ?_
  rw [g.mem]
  unfold namesF
  rw [mem_foldName]
  simp
theorem fit_wrap {n : Int} (h : fitB n = true) : wrap64 n = n := by
  unfold fitB at h; simp at h; unfold wrap64; omega
theorem foldT (l l' : List Mono) : ∀ (ts : List (ByteArray × Int × Int)) (acc : List Mono × Bool), (∀ t ∈ ts, t.2.1 = coefF t.1.toList l ∧ t.2.2 = coefF t.1.toList l') →
    (ts.foldl stepT acc).2 = (acc.2 && fitN l l' (ts.map (·.1))) ∧ (fitN l l' (ts.map (·.1)) = true → (ts.foldl stepT acc).1 = acc.1 ++ outN l l' (ts.map (·.1)))
  | [], acc, _ => by simp [fitN, outN]
  | t :: r, acc, h => by
    obtain ⟨h1, h2⟩ := h t (by simp)
    obtain ⟨g1, g2⟩ := foldT l l' r (stepT acc t) fun x hx => h x (by simp [hx])
    have e1 : (stepT acc t).2 = (acc.2 && fitB (coefF t.1.toList l + coefF t.1.toList l')) := by rw [← h1, ← h2]; rfl
    refine ⟨?_, fun hf => ?_⟩
    · rw [List.foldl_cons, g1, e1, Bool.and_assoc]; rfl
    · have hf' : (fitB (coefF t.1.toList l + coefF t.1.toList l') && fitN l l' (r.map (·.1))) = true := hf
      obtain ⟨f1, f2⟩ := Bool.and_eq_true_iff.1 hf'
      rw [List.foldl_cons, g2 f2]
      have e2 : (stepT acc t).1 = acc.1 ++ putM t.1 (coefF t.1.toList l + coefF t.1.toList l') [] := by
        show (stepA acc t.1 t.2.1 t.2.2).1 = _
        rw [h1, h2]
        unfold stepA putM
        rw [fit_wrap f1]
        split <;> simp
      rw [e2, List.append_assoc]
      rfl
/-- The reference's sum is the program's. -/
theorem add_eq (K : Int) (l : List Mono) (K' : Int) (l' : List Mono) : addRF K l K' l' = addF K l K' l' := by
  unfold addRF addF
  cases h : (okL l && okL l')
  · rfl
  · obtain ⟨h1, h2⟩ := Bool.and_eq_true_iff.1 h
    have g := mergeN_facts l l' none h1 h2
    obtain ⟨f1, f2⟩ := foldT l l' (mergeN l l') ([], fitB (K + K')) g.coef
    rw [names_merge h1 h2, merge_fold, f1]
    rw [if_pos rfl, if_pos rfl]
    cases hf : (fitB (K + K') && fitN l l' ((mergeN l l').map (·.1)))
    · rw [if_neg (by simp), if_neg (by simp)]
    · obtain ⟨k1, k2⟩ := Bool.and_eq_true_iff.1 hf
      rw [if_pos rfl, if_pos rfl, f2 k2, fit_wrap k1]; rfl
theorem namesF_len : ∀ (l : List Mono) (ns : List ByteArray), (nameF ns l).length ≤ ns.length + l.length
  | [], ns => by simp [nameF]
  | m :: r, ns => by
    have h1 := namesF_len r (insS m.1 ns)
    have h2 : ∀ x : List ByteArray, (insS m.1 x).length ≤ x.length + 1 := by
      intro x
      induction x with
      | nil => simp [insS]
      | cons a b ih => unfold insS; split <;> (try split) <;> simp <;> omega
    have := h2 ns
    show (nameF (insS m.1 ns) r).length ≤ _
    rw [List.length_cons]; omega
end Go.Proofs.YtahlecmlhdikjaaDoor
