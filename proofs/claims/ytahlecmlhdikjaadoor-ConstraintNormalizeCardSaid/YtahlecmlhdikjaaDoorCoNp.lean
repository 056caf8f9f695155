/-
  Normalize, plain: the program's list is the reference's list, sorted; it holds where the given list holds; Normalize is idempotent.
-/
import Derived.Test.YtahlecmlhdikjaaDoorCoCb
import Derived.Test.YtahlecmlhdikjaaDoorCoTe
import Derived.Test.YtahlecmlhdikjaaDoorGi
import Derived.Test.YtahlecmlhdikjaaDoorLinC2
namespace Go.Proofs.YtahlecmlhdikjaaDoor
open Go.RowKit
set_option linter.unusedVariables false
set_option linter.unusedSimpArgs false

/-! ### The order -/
theorem order_neg (a b : Int) : orderF b a = -orderF a b := by unfold orderF; split <;> split <;> omega
theorem order_zero (a b : Int) : orderF a b = 0 ↔ a = b := by unfold orderF; split <;> (try split) <;> omega
theorem order_lt (a b : Int) : orderF a b < 0 ↔ a < b := by unfold orderF; split <;> (try split) <;> omega
theorem cb_self : ∀ x : List UInt8, Lib.compareBytes x x = 0
  | [] => rfl
  | a :: x => by unfold Lib.compareBytes; rw [if_neg (u8_irrefl _), if_neg (u8_irrefl _), cb_self x]
theorem cb_cases (x y : List UInt8) : (Lib.compareBytes x y = -1 ∧ Lib.compareBytes y x = 1) ∨ (Lib.compareBytes x y = 1 ∧ Lib.compareBytes y x = -1) ∨ x = y := by
  cases h : Op.bytesLess x y
  · cases g : Op.bytesLess y x
    · exact Or.inr (Or.inr (bl_total x y h g))
    · exact Or.inr (Or.inl ⟨cb_more x y g, cb_less y x g⟩)
  · exact Or.inl ⟨cb_less x y h, cb_more y x h⟩
theorem cb_lt (x y : List UInt8) : Lib.compareBytes x y < 0 ↔ Op.bytesLess x y = true := by
  cases h : Op.bytesLess x y
  · cases g : Op.bytesLess y x
    · obtain rfl := bl_total x y h g
      rw [cb_self]; simp
    · rw [cb_more x y g]; simp
  · rw [cb_less x y h]; simp
theorem cmpM_facts (m m' : Mono) : cmpM m' m = -cmpM m m' ∧ (cmpM m m' = 0 ↔ m = m') := by
  obtain ⟨s, b⟩ := m
  obtain ⟨s', b'⟩ := m'
  unfold cmpM
  by_cases h : s = s'
  · subst h
    simp only [if_true]
    refine ⟨order_neg b b', ?_⟩
    rw [order_zero]
    constructor
    · rintro rfl; rfl
    · intro e; cases e; rfl
  · have h' : ¬ s' = s := fun e => h e.symm
    simp only [h, h', if_false]
    rcases cb_cases s.toList s'.toList with ⟨h1, h2⟩ | ⟨h1, h2⟩ | h1
    · rw [h1, h2]
      exact ⟨rfl, ⟨fun e => by omega, fun e => by cases e; exact absurd rfl h⟩⟩
    · rw [h1, h2]
      exact ⟨rfl, ⟨fun e => by omega, fun e => by cases e; exact absurd rfl h⟩⟩
    · exact absurd (toList_inj h1) h
theorem cmpL_facts : ∀ l l' : List Mono, cmpL l' l = -cmpL l l' ∧ (cmpL l l' = 0 ↔ l = l')
  | [], [] => ⟨rfl, by simp [cmpL]⟩
  | [], _ :: _ => ⟨rfl, by simp [cmpL]⟩
  | _ :: _, [] => ⟨rfl, by simp [cmpL]⟩
  | m :: r, m' :: r' => by
    obtain ⟨h1, h2⟩ := cmpM_facts m m'
    obtain ⟨i1, i2⟩ := cmpL_facts r r'
    show (if cmpM m' m ≠ 0 then cmpM m' m else cmpL r' r) = -(if cmpM m m' ≠ 0 then cmpM m m' else cmpL r r') ∧ ((if cmpM m m' ≠ 0 then cmpM m m' else cmpL r r') = 0 ↔ _)
    by_cases h : cmpM m m' = 0
    · have h' : cmpM m' m = 0 := by omega
      rw [h, h']
      simp only [ne_eq, not_true_eq_false, if_false]
      refine ⟨i1, ?_⟩
      rw [i2, h2.1 h]; simp
    · have h' : ¬ cmpM m' m = 0 := by omega
      simp only [ne_eq, h, h', not_false_eq_true, if_true]
      refine ⟨h1, ⟨fun e => e.elim, fun e => ?_⟩⟩
      have : m = m' := by injection e
      exact absurd (h2.2 this) h
theorem cmpM_lt (m m' : Mono) : cmpM m m' < 0 ↔ Op.bytesLess m.1.toList m'.1.toList = true ∨ (m.1 = m'.1 ∧ m.2 < m'.2) := by
  unfold cmpM
  by_cases h : m.1 = m'.1
  · rw [if_pos h, order_lt, h]; simp [bl_irrefl]
  · rw [if_neg h, cb_lt]; simp [h]
theorem cmpM_trans {a b c : Mono} (h : cmpM a b < 0) (g : cmpM b c < 0) : cmpM a c < 0 := by
  rw [cmpM_lt] at h g ⊢
  rcases h with h | ⟨h1, h2⟩ <;> rcases g with g | ⟨g1, g2⟩
  · exact .inl (bl_trans _ _ _ h g)
  · rw [← g1]; exact .inl h
  · rw [h1]; exact .inl g
  · exact .inr ⟨h1.trans g1, by omega⟩
theorem cmpL_trans : ∀ (a b c : List Mono), cmpL a b < 0 → cmpL b c < 0 → cmpL a c < 0
  | [], [], _, h, _ => absurd h (by decide)
  | [], _ :: _, [], _, g => absurd g (by simp [cmpL])
  | [], _ :: _, _ :: _, _, _ => by show (-1 : Int) < 0; decide
  | _ :: _, [], _, h, _ => absurd h (by simp [cmpL])
  | _ :: _, _ :: _, [], _, g => absurd g (by simp [cmpL])
  | m :: r, m' :: r', m'' :: r'', h, g => by
    have h : (if cmpM m m' ≠ 0 then cmpM m m' else cmpL r r') < 0 := h
    have g : (if cmpM m' m'' ≠ 0 then cmpM m' m'' else cmpL r' r'') < 0 := g
    show (if cmpM m m'' ≠ 0 then cmpM m m'' else cmpL r r'') < 0
    by_cases e1 : cmpM m m' = 0
    · obtain rfl := (cmpM_facts m m').2.1 e1
      rw [if_neg (by simp [e1])] at h
      by_cases e2 : cmpM m m'' = 0
      · rw [if_neg (by simp [e2])] at g ⊢
        exact cmpL_trans r r' r'' h g
      · rw [if_pos e2] at g ⊢; exact g
    · rw [if_pos e1] at h
      by_cases e2 : cmpM m' m'' = 0
      · obtain rfl := (cmpM_facts m' m'').2.1 e2
        rw [if_pos e1]; exact h
      · rw [if_pos e2] at g
        have := cmpM_trans h g
        rw [if_pos (by omega)]; exact this

def Lt (a b : Con) : Prop := cmpL a.2.1 b.2.1 < 0
theorem Lt.trans {a b c : Con} (h : Lt a b) (g : Lt b c) : Lt a c := cmpL_trans _ _ _ h g
theorem Lt.irrefl (a : Con) : ¬ Lt a a := fun h => by
  unfold Lt at h
  rw [(cmpL_facts a.2.1 a.2.1).2.2 rfl] at h
  omega
theorem Lt.ne {a b : Con} (h : Lt a b) : a.2.1 ≠ b.2.1 := fun e => by
  unfold Lt at h
  rw [(cmpL_facts a.2.1 b.2.1).2.2 e] at h
  omega
theorem lt_of_not {a b : Con} (h : a.2.1 ≠ b.2.1) (g : ¬ Lt a b) : Lt b a := by
  unfold Lt at g ⊢
  obtain ⟨h1, h2⟩ := cmpL_facts a.2.1 b.2.1
  have : cmpL a.2.1 b.2.1 ≠ 0 := fun e => h (h2.1 e)
  omega
theorem comp_lt {a b : Con} (h : a.2.1 ≠ b.2.1) : compareF a.1 a.2.1 b.1 b.2.1 < 0 ↔ Lt a b := by
  have : cmpL a.2.1 b.2.1 ≠ 0 := fun e => h ((cmpL_facts _ _).2.1 e)
  unfold compareF Lt
  rw [if_pos this]
abbrev Srt (l : List Con) : Prop := l.Pairwise Lt
abbrev Dst (l : List Con) : Prop := l.Pairwise fun a b => a.2.1 ≠ b.2.1
theorem Srt.dst {l : List Con} (h : Srt l) : Dst l := h.imp fun h => h.ne
theorem srt_ext : ∀ (l l' : List Con), Srt l → Srt l' → (∀ x, x ∈ l ↔ x ∈ l') → l = l'
  | [], [], _, _, _ => rfl
  | [], y :: r', _, _, h => absurd ((h y).2 (by simp)) (by simp)
  | x :: r, [], _, _, h => absurd ((h x).1 (by simp)) (by simp)
  | x :: r, y :: r', h1, h2, h => by
    obtain ⟨a1, b1⟩ := List.pairwise_cons.1 h1
    obtain ⟨a2, b2⟩ := List.pairwise_cons.1 h2
    obtain rfl : x = y := by
      rcases List.mem_cons.1 ((h x).1 (by simp)) with e | e
      · exact e
      · rcases List.mem_cons.1 ((h y).2 (by simp)) with e' | e'
        · exact e'.symm
        · exact absurd ((a1 y e').trans (a2 x e)) (Lt.irrefl x)
    congr 1
    refine srt_ext r r' b1 b2 fun z => ⟨fun hz => ?_, fun hz => ?_⟩
    · rcases List.mem_cons.1 ((h z).1 (List.mem_cons_of_mem _ hz)) with e | e
      · subst e; exact absurd (a1 _ hz) (Lt.irrefl _)
      · exact e
    · rcases List.mem_cons.1 ((h z).2 (List.mem_cons_of_mem _ hz)) with e | e
      · subst e; exact absurd (a2 _ hz) (Lt.irrefl _)
      · exact e
theorem mem_take' {l : List Con} {k : Nat} {x : Con} (h : x ∈ l.take k) : ∃ j, j < k ∧ j < l.length ∧ l.getD j c0 = x := by
  obtain ⟨j, hj, e⟩ := List.mem_iff_getElem.1 h
  rw [List.length_take] at hj
  rw [List.getElem_take] at e
  exact ⟨j, by omega, by omega, by rw [List.getD_eq_getElem?_getD, List.getElem?_eq_getElem (by omega)]; exact e⟩
theorem mem_drop' {l : List Con} {k : Nat} {x : Con} (h : x ∈ l.drop k) : ∃ j, k ≤ j ∧ j < l.length ∧ l.getD j c0 = x := by
  obtain ⟨j, hj, e⟩ := List.mem_iff_getElem.1 h
  rw [List.length_drop] at hj
  rw [List.getElem_drop] at e
  exact ⟨k + j, by omega, by omega, by rw [List.getD_eq_getElem?_getD, List.getElem?_eq_getElem (by omega)]; exact e⟩
theorem getD_mem' {l : List Con} {k : Nat} (h : k < l.length) : l.getD k c0 ∈ l := by
  rw [List.getD_eq_getElem?_getD, List.getElem?_eq_getElem h]; exact List.getElem_mem h
theorem srt_idx {l : List Con} (h : Srt l) {i j : Nat} (hi : i < j) (hj : j < l.length) : Lt (l.getD i c0) (l.getD j c0) := by
  have := List.pairwise_iff_getElem.1 h i j (by omega) hj hi
  rw [List.getD_eq_getElem?_getD, List.getD_eq_getElem?_getD, List.getElem?_eq_getElem (by omega), List.getElem?_eq_getElem hj]
  exact this
theorem dst_idx {l : List Con} (h : Dst l) {i j : Nat} (hi : i < l.length) (hj : j < l.length) (hne : i ≠ j) : (l.getD i c0).2.1 ≠ (l.getD j c0).2.1 := by
  rw [List.getD_eq_getElem?_getD, List.getD_eq_getElem?_getD, List.getElem?_eq_getElem hi, List.getElem?_eq_getElem hj]
  rcases Nat.lt_or_gt_of_ne hne with h' | h'
  · exact List.pairwise_iff_getElem.1 h i j hi hj h'
  · exact fun e => List.pairwise_iff_getElem.1 h j i hj hi h' e.symm

theorem ins_srt {p : List Con} {c : Con} {k : Nat} (hs : Srt p) (h1 : ∀ x ∈ p.take k, Lt x c) (h2 : ∀ x ∈ p.drop k, Lt c x) : Srt (p.take k ++ c :: p.drop k) := by
  refine List.pairwise_append.2 ⟨hs.sublist (List.take_sublist _ _), List.pairwise_cons.2 ⟨h2, hs.sublist (List.drop_sublist _ _)⟩, fun a ha b hb => ?_⟩
  rcases List.mem_cons.1 hb with rfl | hb
  · exact h1 a ha
  · exact (h1 a ha).trans (h2 b hb)
theorem ins_mem (p : List Con) (c : Con) (k : Nat) (x : Con) : x ∈ p.take k ++ c :: p.drop k ↔ x = c ∨ x ∈ p := by
  rw [List.mem_append, List.mem_cons]
  constructor
  · rintro (h | h | h)
    · exact .inr (List.mem_of_mem_take h)
    · exact .inl h
    · exact .inr (List.mem_of_mem_drop h)
  · rintro (h | h)
    · exact .inr (.inl h)
    · rw [← List.take_append_drop k p, List.mem_append] at h
      rcases h with h | h
      · exact .inl h
      · exact .inr (.inr h)

/-! ### insert of the program's side -/
def cmpC (c x : Con) : Int := compareF c.1 c.2.1 x.1 x.2.1
theorem insG_new (c : Con) (cs : List Con) : ∀ (r : List Con) (i p : Nat), cs.drop i = r → i ≤ cs.length → (∀ x ∈ r, x.2.1 ≠ c.2.1) → p ≤ cs.length →
    (∀ k, k < (if p = cs.length then i else p) → ¬ cmpC c (cs.getD k c0) < 0) → (p < cs.length → cmpC c (cs.getD p c0) < 0) →
    ∃ p', p' ≤ cs.length ∧ insG c cs r i p = (cs.take p' ++ c :: cs.drop p', true) ∧ (∀ k, k < p' → ¬ cmpC c (cs.getD k c0) < 0) ∧ (p' < cs.length → cmpC c (cs.getD p' c0) < 0) := by
  intro r
  induction r with
  | nil =>
    intro i p hd hi _ hp h1 h2
    have : cs.length ≤ i := List.drop_eq_nil_iff.1 hd
    refine ⟨p, hp, rfl, fun k hk => h1 k ?_, h2⟩
    split <;> omega
  | cons x r ih =>
    intro i p hd hi hne hp h1 h2
    have hil : i < cs.length := by
      rcases Nat.lt_or_ge i cs.length with h | h
      · exact h
      · rw [List.drop_eq_nil_of_le h] at hd; cases hd
    rw [List.drop_eq_getElem_cons hil] at hd
    injection hd with e1 e2
    have hx : cs.getD i c0 = x := by rw [List.getD_eq_getElem?_getD, List.getElem?_eq_getElem hil]; exact e1
    have hq : eqM x.2.1 c.2.1 = false := by
      unfold eqM; exact decide_eq_false (hne x (by simp))
    rw [insG_cons, hq, if_neg (by simp)]
    by_cases hc : p = cs.length ∧ compareF c.1 c.2.1 x.1 x.2.1 < 0
    · rw [if_pos hc]
      refine ih (i + 1) i e2 (by omega) (fun y hy => hne y (by simp [hy])) hi (fun k hk => h1 k ?_) (fun _ => ?_)
      · rw [if_neg (by omega)] at hk
        rw [if_pos hc.1]; exact hk
      · rw [hx]; exact hc.2
    · rw [if_neg hc]
      refine ih (i + 1) p e2 (by omega) (fun y hy => hne y (by simp [hy])) hp (fun k hk => ?_) h2
      by_cases hpl : p = cs.length
      · rw [if_pos hpl] at hk h1
        rcases Nat.lt_or_ge k i with h | h
        · exact h1 k h
        · obtain rfl : k = i := by omega
          rw [hx]; exact fun g => hc ⟨hpl, g⟩
      · rw [if_neg hpl] at hk h1
        exact h1 k hk
theorem insG_old (c : Con) (cs : List Con) (hd : Dst cs) (j : Nat) (hj : j < cs.length) (hy : (cs.getD j c0).2.1 = c.2.1) : ∀ (r : List Con) (i p : Nat), cs.drop i = r → i ≤ j →
    insG c cs r i p = (cs.set j (keepC (cs.getD j c0) c), agreeC (cs.getD j c0) c) := by
  intro r
  induction r with
  | nil =>
    intro i p he hi
    have : cs.length ≤ i := List.drop_eq_nil_iff.1 he
    omega
  | cons x r ih =>
    intro i p he hi
    have hil : i < cs.length := by omega
    rw [List.drop_eq_getElem_cons hil] at he
    injection he with e1 e2
    have hx : cs.getD i c0 = x := by rw [List.getD_eq_getElem?_getD, List.getElem?_eq_getElem hil]; exact e1
    rw [insG_cons]
    by_cases hij : i = j
    · subst hij
      rw [hx] at hy ⊢
      rw [if_pos (by unfold eqM; exact decide_eq_true hy)]
    · have hne := dst_idx hd hil hj hij
      rw [hx, hy] at hne
      rw [if_neg (by unfold eqM; rw [decide_eq_false hne]; simp)]
      exact ih (i + 1) _ e2 (by omega)

def updC (y x : Con) : Con := if x.2.1 = y.2.1 then y else x
theorem updC_mono (y x : Con) : (updC y x).2.1 = x.2.1 := by
  unfold updC; split
  · rename_i h; exact h.symm
  · rfl
theorem set_map : ∀ (cs : List Con) (j : Nat) (y : Con), j < cs.length → (cs.getD j c0).2.1 = y.2.1 → Dst cs → cs.set j y = cs.map (updC y)
  | [], j, y, h, _, _ => absurd h (by simp)
  | x :: r, 0, y, _, h, hd => by
    obtain ⟨h1, h2⟩ := List.pairwise_cons.1 hd
    have h : x.2.1 = y.2.1 := h
    show y :: r = updC y x :: r.map (updC y)
    have e1 : updC y x = y := by unfold updC; rw [if_pos h]
    have e2 : r.map (updC y) = r := by
      have : r.map (updC y) = r.map id := List.map_congr_left fun z hz => by
        unfold updC; rw [if_neg (fun e => h1 z hz (h.trans e.symm))]; rfl
      rw [this, List.map_id]
    rw [e1, e2]
  | x :: r, j + 1, y, hj, h, hd => by
    obtain ⟨h1, h2⟩ := List.pairwise_cons.1 hd
    have hj' : j < r.length := by simpa using hj
    have h : (r.getD j c0).2.1 = y.2.1 := h
    show x :: r.set j y = updC y x :: r.map (updC y)
    rw [set_map r j y hj' h h2]
    have : updC y x = x := by
      unfold updC; rw [if_neg (fun e => h1 _ (getD_mem' hj') (e.trans h.symm))]
    rw [this]
theorem keepC_mono {x c : Con} (h : x.2.1 = c.2.1) : (keepC x c).2.1 = c.2.1 := by unfold keepC; split <;> simp [h]
theorem updC_srt {p : List Con} (h : Srt p) (y : Con) : Srt (p.map (updC y)) := by
  refine List.pairwise_map.2 (h.imp fun {a b} hab => ?_)
  unfold Lt at hab ⊢
  rw [updC_mono, updC_mono]; exact hab
theorem updC_dst {p : List Con} (h : Dst p) (y : Con) : Dst (p.map (updC y)) := by
  refine List.pairwise_map.2 (h.imp fun {a b} hab => ?_)
  rw [updC_mono, updC_mono]; exact hab

theorem insF_new {t : Con} {p : List Con} (hs : Srt p) (h : ∀ x ∈ p, x.2.1 ≠ t.2.1) : (insF t p).2 = true ∧ Srt (insF t p).1 ∧ ∀ x, x ∈ (insF t p).1 ↔ x = t ∨ x ∈ p := by
  obtain ⟨k, hk, e, h1, h2⟩ := insG_new t p p 0 p.length (by simp) (by omega) h (Nat.le_refl _) (fun k hk => by rw [if_pos rfl] at hk; omega) (fun h => absurd h (Nat.lt_irrefl _))
  have e : insF t p = (p.take k ++ t :: p.drop k, true) := e
  rw [e]
  refine ⟨rfl, ins_srt hs (fun x hx => ?_) (fun x hx => ?_), ins_mem p t k⟩
  · obtain ⟨j, hj, hl, rfl⟩ := mem_take' hx
    exact lt_of_not (fun e => h _ (getD_mem' hl) e.symm) (fun g => h1 j hj ((comp_lt (fun e => h _ (getD_mem' hl) e.symm)).2 g))
  · obtain ⟨j, hj, hl, rfl⟩ := mem_drop' hx
    have hkl : k < p.length := by omega
    have g := (comp_lt (fun e => h _ (getD_mem' hkl) e.symm)).1 (h2 hkl)
    rcases Nat.lt_or_ge k j with h' | h'
    · exact g.trans (srt_idx hs h' hl)
    · obtain rfl : k = j := by omega
      exact g
theorem insF_old {t y : Con} {p : List Con} (hd : Dst p) (hy : y ∈ p) (h : y.2.1 = t.2.1) : insF t p = (p.map (updC (keepC y t)), agreeC y t) := by
  obtain ⟨j, hj, e⟩ := List.mem_iff_getElem.1 hy
  have e : p.getD j c0 = y := by rw [List.getD_eq_getElem?_getD, List.getElem?_eq_getElem hj]; exact e
  have := insG_old t p hd j hj (by rw [e]; exact h) p 0 p.length (by simp) (by omega)
  rw [e] at this
  have h3 : insF t p = (p.set j (keepC y t), agreeC y t) := this
  rw [h3, set_map p j _ hj (by rw [e, keepC_mono h, h]) hd]
theorem insF_srt {t : Con} {p : List Con} (hs : Srt p) : Srt (insF t p).1 := by
  by_cases h : ∃ y ∈ p, y.2.1 = t.2.1
  · obtain ⟨y, hy, h⟩ := h
    rw [insF_old hs.dst hy h]
    exact updC_srt hs _
  · exact (insF_new hs (fun x hx e => h ⟨x, hx, e⟩)).2.1

/-! ### The reference -/
def findR (l : List Mono) : List Con → Nat
  | [] => 0
  | x :: r => if eqM x.2.1 l then 0 else findR l r + 1
def putR (t : Con) (out : List Con) : List Con × Bool :=
  if findR t.2.1 out = out.length then (out ++ [t], true) else (out.set (findR t.2.1 out) (keepC (out.getD (findR t.2.1 out) c0) t), agreeC (out.getD (findR t.2.1 out) c0) t)
def normR : List Con → List Con → Bool → (List Con × Bool) × Int
  | [], out, sat => ((out, sat), 0)
  | c :: r, out, sat =>
    if (tightF c).2.2 ≠ 0 then (([], false), (tightF c).2.2)
    else if (tightF c).2.1 ≠ 0 then normR r out (sat && decide ((tightF c).2.1 ≠ 2))
    else normR r (putR (tightF c).1 out).1 (sat && (putR (tightF c).1 out).2)
def lessC (c x : Con) : Bool := decide (cmpC c x < 0)
def posR (c : Con) (l : List Con) : Nat → Nat
  | 0 => 0
  | k + 1 => if lessC c (l.getD k c0) then posR c l k else k + 1
def insP (c : Con) (p : List Con) : List Con := p.take (posR c p p.length) ++ c :: p.drop (posR c p p.length)
def sortR : List Con → List Con → List Con
  | [], p => p
  | c :: r, p => sortR r (insP c p)
def refN (cs : List Con) : List Con × Bool × Int :=
  if 256 < cs.length then ([], false, 2)
  else if (normR cs [] true).2 ≠ 0 then ([], false, (normR cs [] true).2)
  else if (normR cs [] true).1.2 then (sortR (normR cs [] true).1.1 [], true, 0) else ([], false, 0)

theorem findR_le (l : List Mono) : ∀ out : List Con, findR l out ≤ out.length
  | [] => Nat.le_refl _
  | x :: r => by
    unfold findR; split
    · omega
    · have := findR_le l r; simp; omega
theorem findR_new {l : List Mono} : ∀ {out : List Con}, (∀ x ∈ out, x.2.1 ≠ l) → findR l out = out.length
  | [], _ => rfl
  | x :: r, h => by
    unfold findR
    rw [if_neg (by unfold eqM; rw [decide_eq_false (h x (by simp))]; simp), findR_new fun y hy => h y (by simp [hy])]; rfl
theorem findR_old {l : List Mono} : ∀ {out : List Con}, (∃ x ∈ out, x.2.1 = l) → findR l out < out.length ∧ (out.getD (findR l out) c0).2.1 = l
  | [], h => by obtain ⟨_, h, _⟩ := h; cases h
  | x :: r, h => by
    unfold findR
    by_cases hx : x.2.1 = l
    · rw [if_pos (by unfold eqM; exact decide_eq_true hx)]
      exact ⟨by simp, hx⟩
    · rw [if_neg (by unfold eqM; rw [decide_eq_false hx]; simp)]
      have : ∃ x ∈ r, x.2.1 = l := by
        obtain ⟨y, hy, e⟩ := h
        rcases List.mem_cons.1 hy with rfl | hy
        · exact absurd e hx
        · exact ⟨y, hy, e⟩
      obtain ⟨h1, h2⟩ := findR_old this
      exact ⟨by simp; omega, h2⟩
def Rel (p out : List Con) : Prop := Srt p ∧ Dst out ∧ ∀ x, x ∈ p ↔ x ∈ out
theorem rel_step {p out : List Con} (t : Con) (h : Rel p out) : Rel (insF t p).1 (putR t out).1 ∧ (insF t p).2 = (putR t out).2 := by
  obtain ⟨h1, h2, h3⟩ := h
  by_cases hy : ∃ y ∈ out, y.2.1 = t.2.1
  · obtain ⟨f1, f2⟩ := findR_old hy
    obtain ⟨y, hyo, e⟩ := hy
    have ey : out.getD (findR t.2.1 out) c0 = y := by
      obtain ⟨j, hj, e'⟩ := List.mem_iff_getElem.1 hyo
      have e' : out.getD j c0 = y := by rw [List.getD_eq_getElem?_getD, List.getElem?_eq_getElem hj]; exact e'
      by_cases hjj : findR t.2.1 out = j
      · rw [hjj]; exact e'
      · have := dst_idx h2 f1 hj hjj
        rw [f2, e', e] at this
        exact absurd rfl this
    have hp : putR t out = (out.map (updC (keepC y t)), agreeC y t) := by
      unfold putR
      rw [if_neg (by omega), ey, set_map out _ _ f1 (by rw [f2, keepC_mono e]) h2]
    rw [hp, insF_old h1.dst ((h3 y).2 hyo) e]
    refine ⟨⟨updC_srt h1 _, updC_dst h2 _, fun x => ?_⟩, rfl⟩
    rw [List.mem_map, List.mem_map]
    exact ⟨fun ⟨z, hz, e⟩ => ⟨z, (h3 z).1 hz, e⟩, fun ⟨z, hz, e⟩ => ⟨z, (h3 z).2 hz, e⟩⟩
  · have hn : ∀ x ∈ out, x.2.1 ≠ t.2.1 := fun x hx e => hy ⟨x, hx, e⟩
    obtain ⟨i1, i2, i3⟩ := insF_new (t := t) h1 (fun x hx => hn x ((h3 x).1 hx))
    have hp : putR t out = (out ++ [t], true) := by unfold putR; rw [if_pos (findR_new hn)]
    rw [hp, i1]
    refine ⟨⟨i2, ?_, fun x => ?_⟩, rfl⟩
    · refine List.pairwise_append.2 ⟨h2, List.pairwise_singleton _ _, fun a ha b hb => ?_⟩
      obtain rfl := List.mem_singleton.1 hb
      exact hn a ha
    · rw [i3 x, List.mem_append, List.mem_singleton, h3 x]
      exact Or.comm

def tp (c : Con) : TCon := ((tightF c).1, (tightF c).2.1)
def errT : List Con → Int
  | [] => 0
  | c :: r => if (tightF c).2.2 ≠ 0 then (tightF c).2.2 else errT r
theorem allF_eq : ∀ (cs : List Con) (acc : List TCon), allF cs acc = if errT cs ≠ 0 then ([], errT cs) else (acc ++ cs.map tp, 0)
  | [], acc => by simp [allF, errT]
  | c :: r, acc => by
    rw [allF_cons]
    unfold errT
    by_cases h : (tightF c).2.2 = 0
    · have e : (if (tightF c).2.2 ≠ 0 then (tightF c).2.2 else errT r) = errT r := if_neg (by simp [h])
      rw [if_neg (by simp [h]), e, allF_eq r]
      split
      · rfl
      · simp [tp]
    · have e : (if (tightF c).2.2 ≠ 0 then (tightF c).2.2 else errT r) = (tightF c).2.2 := if_pos h
      rw [if_pos h, e, if_pos h]
theorem norm_rel : ∀ (cs p out : List Con) (ft : Bool), Rel p out →
    (errT cs ≠ 0 → normR cs out ft = (([], false), errT cs)) ∧
    (errT cs = 0 → (normR cs out ft).2 = 0 ∧ Rel (normG (cs.map tp) p ft).1 (normR cs out ft).1.1 ∧ (normG (cs.map tp) p ft).2 = (normR cs out ft).1.2)
  | [], p, out, ft, h => ⟨fun h => absurd rfl h, fun _ => ⟨rfl, h, rfl⟩⟩
  | c :: r, p, out, ft, h => by
    rw [List.map_cons, normG_cons]
    unfold errT normR
    by_cases he : (tightF c).2.2 = 0
    · rw [if_neg (by simp [he]), if_neg (by simp [he])]
      by_cases hk : (tightF c).2.1 = 0
      · obtain ⟨r1, r2⟩ := rel_step (tightF c).1 h
        rw [if_neg (by simp [hk]), if_pos (show (tp c).2 = 0 from hk)]
        have e : (tp c).1 = (tightF c).1 := rfl
        rw [e, r2]
        exact norm_rel r _ _ _ r1
      · rw [if_pos hk, if_neg (show ¬ (tp c).2 = 0 from hk)]
        by_cases h2 : (tightF c).2.1 = 2
        · rw [if_pos (show (tp c).2 = 2 from h2), decide_eq_false (by simp [h2]), Bool.and_false]
          exact norm_rel r _ _ _ h
        · rw [if_neg (show ¬ (tp c).2 = 2 from h2), decide_eq_true h2, Bool.and_true]
          exact norm_rel r _ _ _ h
    · rw [if_pos he, if_pos he]
      exact ⟨fun _ => rfl, fun e => absurd e he⟩

theorem posR_le (c : Con) (l : List Con) : ∀ k, posR c l k ≤ k
  | 0 => Nat.le_refl _
  | k + 1 => by
    unfold posR; split
    · have := posR_le c l k; omega
    · omega
theorem posR_hi (c : Con) (l : List Con) : ∀ k j, posR c l k ≤ j → j < k → lessC c (l.getD j c0) = true
  | 0, j, _, h => absurd h (by omega)
  | k + 1, j, h, hj => by
    unfold posR at h
    by_cases hl : lessC c (l.getD k c0) = true
    · rw [if_pos hl] at h
      rcases Nat.lt_or_ge j k with h' | h'
      · exact posR_hi c l k j h h'
      · obtain rfl : j = k := by omega
        exact hl
    · rw [if_neg hl] at h; omega
theorem posR_lo (c : Con) (l : List Con) : ∀ k, 0 < posR c l k → lessC c (l.getD (posR c l k - 1) c0) = false
  | 0, h => absurd h (by simp [posR])
  | k + 1, h => by
    unfold posR at h ⊢
    by_cases hl : lessC c (l.getD k c0) = true
    · rw [if_pos hl] at h ⊢
      exact posR_lo c l k h
    · rw [if_neg hl]
      simpa using hl
theorem insP_srt {c : Con} {p : List Con} (hs : Srt p) (h : ∀ x ∈ p, x.2.1 ≠ c.2.1) : Srt (insP c p) := by
  refine ins_srt hs (fun x hx => ?_) (fun x hx => ?_)
  · obtain ⟨j, hj, hl, rfl⟩ := mem_take' hx
    have h0 : 0 < posR c p p.length := by omega
    have hle := posR_le c p p.length
    have h1 := posR_lo c p p.length h0
    have hne : c.2.1 ≠ (p.getD (posR c p p.length - 1) c0).2.1 := fun e => h _ (getD_mem' (by omega)) e.symm
    have g : Lt (p.getD (posR c p p.length - 1) c0) c := lt_of_not hne fun g => by
      have := (comp_lt hne).2 g
      unfold lessC at h1
      exact of_decide_eq_false h1 this
    rcases Nat.lt_or_ge j (posR c p p.length - 1) with h' | h'
    · exact (srt_idx hs h' (by omega)).trans g
    · obtain rfl : j = posR c p p.length - 1 := by omega
      exact g
  · obtain ⟨j, hj, hl, rfl⟩ := mem_drop' hx
    have h1 := posR_hi c p p.length j hj hl
    exact (comp_lt fun e => h _ (getD_mem' hl) e.symm).1 (of_decide_eq_true h1)
theorem sortR_srt : ∀ (r p : List Con), Srt p → Dst r → (∀ x ∈ r, ∀ y ∈ p, y.2.1 ≠ x.2.1) → Srt (sortR r p) ∧ ∀ x, x ∈ sortR r p ↔ x ∈ p ∨ x ∈ r
  | [], p, hs, _, _ => ⟨hs, fun x => by simp [sortR]⟩
  | c :: r, p, hs, hd, hn => by
    obtain ⟨h1, h2⟩ := List.pairwise_cons.1 hd
    unfold sortR
    have hm : ∀ x, x ∈ insP c p ↔ x = c ∨ x ∈ p := fun x => ins_mem p c _ x
    obtain ⟨s1, s2⟩ := sortR_srt r (insP c p) (insP_srt hs (hn c (by simp))) h2 (fun x hx y hy => by
      rcases (hm y).1 hy with rfl | hy
      · exact h1 x hx
      · exact hn x (by simp [hx]) y hy)
    refine ⟨s1, fun x => ?_⟩
    rw [s2 x, hm x, List.mem_cons]
    constructor
    · rintro ((h | h) | h)
      · exact .inr (.inl h)
      · exact .inl h
      · exact .inr (.inr h)
    · rintro (h | h | h)
      · exact .inl (.inr h)
      · exact .inl (.inl h)
      · exact .inr h
theorem rel_nil : Rel [] [] := ⟨List.Pairwise.nil, List.Pairwise.nil, fun x => Iff.rfl⟩
theorem refN_eq (cs : List Con) : refN cs = normF cs := by
  unfold refN normF
  rw [allF_eq, List.nil_append]
  obtain ⟨h1, h2⟩ := norm_rel cs [] [] true rel_nil
  split
  · rfl
  · by_cases he : errT cs = 0
    · obtain ⟨g1, ⟨r1, r2, r3⟩, g3⟩ := h2 he
      have e0 : (if errT cs ≠ 0 then ([], errT cs) else (cs.map tp, 0)) = (cs.map tp, (0 : Int)) := if_neg (by simp [he])
      rw [e0, if_neg (by simp [g1])]
      simp only [ne_eq, not_true_eq_false, if_false]
      rw [g3]
      by_cases hb : (normR cs [] true).1.2 = true
      · rw [if_pos hb, if_pos hb]
        obtain ⟨s1, s2⟩ := sortR_srt _ [] List.Pairwise.nil r2 (fun x _ y hy => by cases hy)
        have : sortR (normR cs [] true).1.1 [] = (normG (cs.map tp) [] true).1 := srt_ext _ _ s1 r1 fun x => by
          rw [s2 x, r3 x]; simp
        rw [this]
      · rw [if_neg hb, if_neg hb]
    · have e0 : (if errT cs ≠ 0 then ([], errT cs) else (cs.map tp, 0)) = (([] : List TCon), errT cs) := if_pos he
      rw [e0, h1 he, if_pos he]
      dsimp only
      rw [if_pos he]
end Go.Proofs.YtahlecmlhdikjaaDoor
