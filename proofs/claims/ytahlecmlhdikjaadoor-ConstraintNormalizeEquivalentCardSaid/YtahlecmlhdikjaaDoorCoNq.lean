/-
  Normalize, plain: it holds where the given list holds; Normalize is idempotent.
-/
import Derived.Test.YtahlecmlhdikjaaDoorCoNp
namespace Go.Proofs.YtahlecmlhdikjaaDoor
open Go.RowKit
set_option linter.unusedVariables false
set_option linter.unusedSimpArgs false

/-! ### Tight constraints -/
def Tight (x : Con) : Prop := tightF x = (x, 0, 0)
theorem tight_of {K : Int} {L : List Mono} {b : Bool} (h1 : okL L = true) (h2 : L.length ≠ 0) (h3 : gcdL L = 1) (h4 : b = true → ¬ (L.getD 0 m0).2 < 0) : Tight (K, L, b) := by
  have e1 : K % ((gcdL L : Nat) : Int) = 0 := by rw [h3]; exact Int.emod_one K
  have e2 : divL L ((gcdL L : Nat) : Int) = L := by
    rw [h3]
    unfold divL
    have : L.map (fun m => (m.1, m.2 / ((1 : Nat) : Int))) = L.map id := List.map_congr_left fun m _ => by
      show (m.1, m.2 / 1) = m
      rw [Int.ediv_one]
    rw [this, List.map_id]
  have e3 : K / ((gcdL L : Nat) : Int) = K := by rw [h3]; exact Int.ediv_one K
  unfold Tight tightF
  dsimp only
  rw [if_pos h1, if_neg h2, e1, e2, e3]
  cases b
  · simp
  · rw [if_neg (by simp), if_neg (by rw [Bool.true_and]; exact fun h => h4 rfl (of_decide_eq_true h))]
theorem gcd_div (l : List Mono) (g : Nat) (hg : 0 < g) (hd : ∀ m ∈ l, (g : Int) ∣ m.2) (he : gcdL l = g) : gcdL (divL l (g : Int)) = 1 := by
  have key : ∀ (l : List Mono) (a : Nat), (∀ m ∈ l, (g : Int) ∣ m.2) → (divL l (g : Int)).foldl (fun a m => Nat.gcd a m.2.natAbs) a * g = l.foldl (fun a m => Nat.gcd a m.2.natAbs) (a * g) := by
    intro l
    induction l with
    | nil => exact fun a _ => rfl
    | cons m r ih =>
      intro a hd
      show (divL r (g : Int)).foldl (fun a m => Nat.gcd a m.2.natAbs) (Nat.gcd a (m.2 / (g : Int)).natAbs) * g = r.foldl (fun a m => Nat.gcd a m.2.natAbs) (Nat.gcd (a * g) m.2.natAbs)
      rw [ih _ fun x hx => hd x (List.mem_cons_of_mem _ hx)]
      congr 1
      obtain ⟨t, ht⟩ := hd m List.mem_cons_self
      rw [ht, Int.mul_ediv_cancel_left _ (by omega), Int.natAbs_mul, Int.natAbs_natCast, Nat.mul_comm g t.natAbs, Nat.gcd_mul_right]
  have h := key l 0 hd
  rw [Nat.zero_mul] at h
  have h : gcdL (divL l (g : Int)) * g = gcdL l := h
  rw [he] at h
  have : gcdL (divL l (g : Int)) * g = 1 * g := by rw [h, Nat.one_mul]
  exact Nat.eq_of_mul_eq_mul_right hg this
theorem gcd_neg (l : List Mono) : gcdL (negL l) = gcdL l := by
  have key : ∀ (l : List Mono) (a : Nat), (negL l).foldl (fun a m => Nat.gcd a m.2.natAbs) a = l.foldl (fun a m => Nat.gcd a m.2.natAbs) a := by
    intro l
    induction l with
    | nil => exact fun a => rfl
    | cons m r ih =>
      intro a
      show (negL r).foldl (fun a m => Nat.gcd a m.2.natAbs) (Nat.gcd a (-m.2).natAbs) = r.foldl (fun a m => Nat.gcd a m.2.natAbs) (Nat.gcd a m.2.natAbs)
      rw [ih, Int.natAbs_neg]
  exact key l 0
theorem negL_ok : ∀ (l : List Mono) (p : Option (List UInt8)), okFrom p l = true → okFrom p (negL l) = true := by
  intro l
  induction l with
  | nil => exact fun _ _ => rfl
  | cons m r ih =>
    intro p h
    obtain ⟨h1, h2, h3, h4⟩ := (okFrom_cons p m r).1 h
    show okFrom p ((m.1, -m.2) :: negL r) = true
    exact (okFrom_cons _ _ _).2 ⟨h1, by simp; exact h2, h3, ih _ h4⟩
theorem tight_idem (c : Con) (h : (tightF c).2.2 = 0) (hk : (tightF c).2.1 = 0) : Tight (tightF c).1 := by
  obtain ⟨K, l, b⟩ := c
  unfold tightF at h hk ⊢
  dsimp only at h hk ⊢
  by_cases ho : okL l = true
  · rw [if_pos ho] at h hk ⊢
    by_cases hn : l.length = 0
    · rw [if_pos hn] at hk
      split at hk <;> exact absurd hk (by decide)
    · rw [if_neg hn] at h hk ⊢
      have g0 := gcd_pos ho hn
      have gd := gcd_dvd l
      obtain ⟨g, hg⟩ : ∃ g, gcdL l = g := ⟨_, rfl⟩
      rw [hg] at g0 gd h hk ⊢
      have gp : (0 : Int) < (g : Int) := by omega
      have ok1 : okL (divL l (g : Int)) = true := divL_ok gp l none ho gd
      have len1 : (divL l (g : Int)).length ≠ 0 := by unfold divL; rw [List.length_map]; exact hn
      have g1 := gcd_div l g g0 gd hg
      have hs := (div_sign (a := (l.getD 0 m0).2) gp (gd _ (head_mem hn))).1
      by_cases c1 : (b && decide (K % (g : Int) ≠ 0)) = true
      · rw [if_pos c1] at hk
        exact absurd hk (by decide)
      · rw [if_neg c1] at h hk ⊢
        by_cases c2 : (b && decide ((l.getD 0 m0).2 < 0)) = true
        · rw [if_pos c2] at h hk ⊢
          have hneg : (l.getD 0 m0).2 < 0 := of_decide_eq_true (Bool.and_eq_true_iff.1 c2).2
          split at h
          · rename_i c3
            rw [if_pos c3]
            refine tight_of (negL_ok _ none ok1) (by unfold negL; rw [List.length_map]; exact len1) (by rw [gcd_neg, g1]) (fun _ => ?_)
            have e : ((negL (divL l (g : Int))).getD 0 m0).2 = -((l.getD 0 m0).2 / (g : Int)) := by
              cases l with
              | nil => exact absurd rfl hn
              | cons m r => rfl
            rw [e]
            have := hs.2 hneg
            omega
          · exact absurd h (by decide)
        · rw [if_neg c2]
          refine tight_of ok1 len1 g1 (fun hb => ?_)
          rw [head_getD hn, hs]
          exact fun h => c2 (by rw [hb, decide_eq_true h]; rfl)
  · rw [if_neg ho] at h
    exact absurd h (by decide)

/-! ### What holds -/
def HoldS (env : List Mono) (c : Con) : Prop := ∃ u, sumE env c.2.1 c.1 = some u ∧ holdsB u c.2.2 = true
theorem tight_sum (c : Con) (env : List Mono) (u : Int) (h : (tightF c).2.2 = 0) (e1 : sumE env c.2.1 c.1 = some u) :
    ∃ u', sumE env (tightF c).1.2.1 (tightF c).1.1 = some u' ∧ tightLaw (holdsB u c.2.2) (holdsB u' (tightF c).1.2.2) (tightF c).2.1 := by
  obtain ⟨K, l, b⟩ := c
  dsimp only at e1
  unfold tightF at h ⊢
  dsimp only at h ⊢
  by_cases ho : okL l = true
  · rw [if_pos ho] at h ⊢
    by_cases hn : l.length = 0
    · rw [if_pos hn] at h ⊢
      have hl : l = [] := List.eq_nil_of_length_eq_zero hn
      subst hl
      have e1 : some K = some u := e1
      have e2 : K = u := Option.some.inj e1
      subst e2
      by_cases hh : holdsB K b = true
      · rw [if_pos hh]
        exact ⟨0, rfl, by rw [hh]; rfl, .inr hh, .inl (by decide), by decide, by decide⟩
      · rw [if_neg hh]
        have hh : holdsB K b = false := by simpa using hh
        exact ⟨-1, rfl, by rw [hh]; rfl, .inl (by decide), .inr hh, by decide, by decide⟩
    · rw [if_neg hn] at h ⊢
      obtain ⟨g, hg⟩ : ∃ g : Int, (gcdL l : Int) = g := ⟨_, rfl⟩
      have g0 : 0 < g := by rw [← hg]; have := gcd_pos ho hn; omega
      have gd : ∀ m ∈ l, g ∣ m.2 := by rw [← hg]; exact gcd_dvd l
      rw [hg] at h ⊢
      obtain ⟨s1, s2⟩ := sumE_div env g g0 l K u gd e1
      have ue := Int.mul_ediv_add_emod u g
      have r0 := Int.emod_nonneg u (by omega : g ≠ 0)
      have r1 := Int.emod_lt_of_pos u g0
      by_cases c1 : (b && decide (K % g ≠ 0)) = true
      · rw [if_pos c1]
        simp only [Bool.and_eq_true, decide_eq_true_eq] at c1
        obtain ⟨rfl, c1⟩ := c1
        have hu : u ≠ 0 := by
          intro hu
          rw [hu] at s2
          rw [Int.zero_emod] at s2
          exact c1 s2.symm
        have hh : holdsB u true = false := by unfold holdsB; simp [hu]
        exact ⟨-1, rfl, by rw [hh]; rfl, .inl (by decide), .inr hh, by decide, by decide⟩
      · rw [if_neg c1] at h ⊢
        have hz : b = true → u = g * (u / g) := fun hb => by
          rw [hb] at c1
          have : K % g = 0 := by simpa using c1
          omega
        by_cases c2 : (b && decide ((l.getD 0 m0).2 < 0)) = true
        · rw [if_pos c2] at h ⊢
          have hb : b = true := (Bool.and_eq_true_iff.1 c2).1
          subst hb
          split at h
          · rename_i c3
            rw [if_pos c3]
            have t := sumE_neg env _ _ _ 0 s1
            rw [Int.zero_sub, Int.zero_sub] at t
            dsimp only
            have hz := hz rfl
            refine ⟨_, t, ?_, .inl (by decide), .inl (by decide), by decide, by decide⟩
            unfold holdsB
            by_cases hu : u = 0
            · subst hu; simp
            · have : -(u / g) ≠ 0 := by
                intro hq
                have : u / g = 0 := by omega
                rw [this] at hz
                omega
              simp [hu]
              intro hq
              exact absurd hq (by omega)
          · exact absurd h (by decide)
        · rw [if_neg c2]
          dsimp only
          refine ⟨_, s1, ?_, .inl (by decide), .inl (by decide), by decide, by decide⟩
          cases b
          · have : (0 ≤ u) ↔ (0 ≤ u / g) := by
              constructor
              · intro hu; exact Int.ediv_nonneg hu (by omega)
              · intro hu
                have := Int.mul_nonneg (by omega : 0 ≤ g) hu
                omega
            unfold holdsB
            rw [Bool.eq_iff_iff]
            simp
            omega
          · have hz := hz rfl
            unfold holdsB
            by_cases hu : u = 0
            · subst hu; simp
            · have : u / g ≠ 0 := by
                intro hq
                rw [hq] at hz
                omega
              simp [hu, this]
  · rw [if_neg ho] at h
    exact absurd h (by decide)
theorem merge_hold (env : List Mono) {x t : Con} (h : x.2.1 = t.2.1) : (HoldS env x ∧ HoldS env t) ↔ (agreeC x t = true ∧ HoldS env (keepC x t)) := by
  obtain ⟨K, l, b⟩ := x
  obtain ⟨K', l', b'⟩ := t
  have h : l = l' := h
  subst h
  cases hs : sumE env l 0 with
  | none =>
    have hno : ∀ K b, ¬ HoldS env (K, l, b) := fun K b ⟨u, hu, _⟩ => by
      have hu : sumE env l K = some u := hu
      have := sumE_move env l K u (-K) hu
      rw [show K + -K = 0 by omega, hs] at this
      cases this
    constructor
    · exact fun ⟨h1, _⟩ => absurd h1 (hno _ _)
    · rintro ⟨_, h2⟩
      refine absurd h2 ?_
      unfold keepC
      split <;> exact hno _ _
  | some s =>
    have hyes : ∀ K b, HoldS env (K, l, b) ↔ holdsB (s + K) b = true := fun K b => by
      have := sumE_move env l 0 s K hs
      rw [Int.zero_add] at this
      constructor
      · rintro ⟨u, hu, hh⟩
        have hu : sumE env l K = some u := hu
        rw [this] at hu
        cases hu
        exact hh
      · exact fun hh => ⟨_, this, hh⟩
    have hk : HoldS env (keepC (K, l, b) (K', l, b')) ↔ (if keepL K K' b b' then holdsB (s + K) b else holdsB (s + K') b') = true := by
      unfold keepC
      dsimp only
      split
      · exact hyes K b
      · exact hyes K' b'
    rw [hyes, hyes, hk]
    unfold agreeC agree keepL
    cases b <;> cases b' <;> simp only [Bool.true_and, Bool.false_and, Bool.and_true, Bool.and_false, Bool.not_true, Bool.not_false, Bool.true_or, Bool.false_or, if_true, Bool.false_eq_true, if_false, decide_eq_true_eq]
    · by_cases hle : K ≤ K'
      · rw [if_pos hle, holdsB_iff, holdsB_iff]; simp; omega
      · rw [if_neg hle, holdsB_iff, holdsB_iff]; simp; omega
    · rw [holdsB_iff, holdsB_iff]; simp; omega
    · rw [holdsB_iff, holdsB_iff]; simp; omega
    · rw [holdsB_iff, holdsB_iff]; simp; omega
theorem dst_eq {p : List Con} (h : Dst p) {x y : Con} (hx : x ∈ p) (hy : y ∈ p) (e : x.2.1 = y.2.1) : x = y := by
  obtain ⟨i, hi, rfl⟩ := List.mem_iff_getElem.1 hx
  obtain ⟨j, hj, rfl⟩ := List.mem_iff_getElem.1 hy
  by_cases hij : i = j
  · subst hij; rfl
  · have := dst_idx h hi hj hij
    rw [List.getD_eq_getElem?_getD, List.getD_eq_getElem?_getD, List.getElem?_eq_getElem hi, List.getElem?_eq_getElem hj] at this
    exact absurd e this
theorem ins_sem (env : List Mono) (t : Con) {p : List Con} (hs : Srt p) : ((insF t p).2 = true ∧ ∀ x ∈ (insF t p).1, HoldS env x) ↔ (HoldS env t ∧ ∀ x ∈ p, HoldS env x) := by
  by_cases h : ∃ y ∈ p, y.2.1 = t.2.1
  · obtain ⟨y, hy, e⟩ := h
    rw [insF_old hs.dst hy e]
    dsimp only
    have hkm := keepC_mono e
    have hup : ∀ x ∈ p, updC (keepC y t) x = if x = y then keepC y t else x := fun x hx => by
      unfold updC
      by_cases hxy : x = y
      · subst hxy; rw [if_pos rfl, if_pos (by rw [hkm, e])]
      · rw [if_neg hxy, if_neg (fun h => hxy (dst_eq hs.dst hx hy (h.trans (by rw [hkm, e]))))]
    constructor
    · rintro ⟨h1, h2⟩
      have hk : HoldS env (keepC y t) := by
        have := h2 _ (List.mem_map.2 ⟨y, hy, rfl⟩)
        rw [hup y hy, if_pos rfl] at this; exact this
      obtain ⟨g1, g2⟩ := (merge_hold env e).2 ⟨h1, hk⟩
      refine ⟨g2, fun x hx => ?_⟩
      by_cases hxy : x = y
      · rw [hxy]; exact g1
      · have := h2 _ (List.mem_map.2 ⟨x, hx, rfl⟩)
        rw [hup x hx, if_neg hxy] at this; exact this
    · rintro ⟨h1, h2⟩
      obtain ⟨g1, g2⟩ := (merge_hold env e).1 ⟨h2 y hy, h1⟩
      refine ⟨g1, fun z hz => ?_⟩
      obtain ⟨x, hx, rfl⟩ := List.mem_map.1 hz
      rw [hup x hx]
      split
      · exact g2
      · exact h2 x hx
  · obtain ⟨h1, _, h3⟩ := insF_new (t := t) hs (fun x hx e => h ⟨x, hx, e⟩)
    rw [h1]
    constructor
    · rintro ⟨_, h2⟩
      exact ⟨h2 t ((h3 t).2 (.inl rfl)), fun x hx => h2 x ((h3 x).2 (.inr hx))⟩
    · rintro ⟨h1, h2⟩
      refine ⟨rfl, fun x hx => ?_⟩
      rcases (h3 x).1 hx with rfl | hx
      · exact h1
      · exact h2 x hx
theorem norm_sem (env : List Mono) : ∀ (ts : List TCon) (p : List Con) (ft : Bool), Srt p →
    (((normG ts p ft).2 = true ∧ ∀ x ∈ (normG ts p ft).1, HoldS env x) ↔ (ft = true ∧ (∀ t ∈ ts, (t.2 = 0 → HoldS env t.1) ∧ t.2 ≠ 2) ∧ ∀ x ∈ p, HoldS env x))
  | [], p, ft, hs => by
    show (ft = true ∧ ∀ x ∈ p, HoldS env x) ↔ _
    simp
  | t :: r, p, ft, hs => by
    rw [normG_cons]
    by_cases h0 : t.2 = 0
    · rw [if_pos h0, norm_sem env r _ _ (insF_srt hs), Bool.and_eq_true]
      have hi := ins_sem env t.1 hs
      constructor
      · rintro ⟨⟨h1, h2⟩, h3, h4⟩
        obtain ⟨g1, g2⟩ := hi.1 ⟨h2, h4⟩
        exact ⟨h1, fun x hx => by
          rcases List.mem_cons.1 hx with rfl | hx
          · exact ⟨fun _ => g1, by rw [h0]; decide⟩
          · exact h3 x hx, g2⟩
      · rintro ⟨h1, h2, h3⟩
        obtain ⟨g1, g2⟩ := hi.2 ⟨(h2 t List.mem_cons_self).1 h0, h3⟩
        exact ⟨⟨h1, g1⟩, fun x hx => h2 x (List.mem_cons_of_mem _ hx), g2⟩
    · rw [if_neg h0]
      by_cases h2 : t.2 = 2
      · rw [if_pos h2, norm_sem env r _ _ hs]
        constructor
        · rintro ⟨h, _⟩; cases h
        · rintro ⟨_, h, _⟩
          exact absurd h2 (h t List.mem_cons_self).2
      · rw [if_neg h2, norm_sem env r _ _ hs]
        constructor
        · rintro ⟨h1, h3, h4⟩
          exact ⟨h1, fun x hx => by
            rcases List.mem_cons.1 hx with rfl | hx
            · exact ⟨fun h => absurd h h0, h2⟩
            · exact h3 x hx, h4⟩
        · rintro ⟨h1, h3, h4⟩
          exact ⟨h1, fun x hx => h3 x (List.mem_cons_of_mem _ hx), h4⟩

theorem first_le (env : List Mono) : ∀ (cs : List Con) (i : Int), (firstF env cs i).1 ≤ i + cs.length ∧ i ≤ (firstF env cs i).1
  | [], i => by show i ≤ i + ((0 : Nat) : Int) ∧ i ≤ i; omega
  | c :: r, i => by
    rw [firstF_cons]
    have := first_le env r (i + 1)
    rw [List.length_cons]
    split
    · dsimp only; omega
    · omega
theorem first_viol (env : List Mono) : ∀ (cs : List Con) (i : Int), (firstF env cs i).2 = 0 → (firstF env cs i).1 ≠ i + cs.length → ∃ c ∈ cs, ∃ u, sumE env c.2.1 c.1 = some u ∧ holdsB u c.2.2 = false
  | [], i, _, h => absurd (show i = i + ((0 : Nat) : Int) by omega) h
  | c :: r, i, h0, h => by
    rw [firstF_cons] at h0 h
    by_cases hc : (holdsF c env).2 ≠ 0 ∨ (holdsF c env).1 = false
    · rw [if_pos hc] at h0
      have h0 : (holdsF c env).2 = 0 := h0
      obtain ⟨u, e1, e2⟩ := holds_ok h0
      refine ⟨c, List.mem_cons_self, u, e1, ?_⟩
      rcases hc with hc | hc
      · exact absurd h0 hc
      · rw [e2] at hc; exact hc
    · rw [if_neg hc] at h0 h
      obtain ⟨x, hx, hh⟩ := first_viol env r (i + 1) h0 (by rw [List.length_cons] at h; omega)
      exact ⟨x, List.mem_cons_of_mem _ hx, hh⟩

theorem errT_all : ∀ {cs : List Con}, errT cs = 0 → ∀ c ∈ cs, (tightF c).2.2 = 0
  | [], _, c, hc => by cases hc
  | c :: r, h, x, hx => by
    unfold errT at h
    by_cases h0 : (tightF c).2.2 = 0
    · rw [if_neg (by simp [h0])] at h
      rcases List.mem_cons.1 hx with rfl | hx
      · exact h0
      · exact errT_all h x hx
    · rw [if_pos h0] at h; exact absurd h h0
/-- The three ends of Normalize. -/
theorem norm_ends (cs : List Con) : (∃ e, e ≠ 0 ∧ normF cs = ([], false, e)) ∨ (errT cs = 0 ∧ cs.length ≤ 256 ∧ normF cs = if (normG (cs.map tp) [] true).2 then ((normG (cs.map tp) [] true).1, true, 0) else ([], false, 0)) := by
  unfold normF
  rw [allF_eq, List.nil_append]
  by_cases hl : 256 < cs.length
  · rw [if_pos hl]; exact .inl ⟨2, by decide, rfl⟩
  · rw [if_neg hl]
    by_cases he : errT cs = 0
    · have e0 : (if errT cs ≠ 0 then ([], errT cs) else (cs.map tp, 0)) = (cs.map tp, (0 : Int)) := if_neg (by simp [he])
      rw [e0]
      exact .inr ⟨he, by omega, if_neg (by simp)⟩
    · have e0 : (if errT cs ≠ 0 then ([], errT cs) else (cs.map tp, 0)) = (([] : List TCon), errT cs) := if_pos he
      rw [e0]
      dsimp only
      rw [if_pos he]
      exact .inl ⟨_, he, rfl⟩
theorem sem_all {env : List Mono} {cs : List Con} (he : errT cs = 0) (ha : ∀ c ∈ cs, HoldS env c) : (normG (cs.map tp) [] true).2 = true ∧ ∀ x ∈ (normG (cs.map tp) [] true).1, HoldS env x := by
  refine (norm_sem env _ [] true List.Pairwise.nil).2 ⟨rfl, fun t ht => ?_, fun x hx => by cases hx⟩
  obtain ⟨c, hc, rfl⟩ := List.mem_map.1 ht
  obtain ⟨u, h1, h2⟩ := ha c hc
  obtain ⟨u', g1, g2, _, g4, _⟩ := tight_sum c env u (errT_all he c hc) h1
  refine ⟨fun _ => ⟨u', g1, show holdsB u' (tightF c).1.2.2 = true by rw [← g2]; exact h2⟩, fun h => ?_⟩
  rcases g4 with g4 | g4
  · exact g4 h
  · rw [h2] at g4; cases g4
theorem sem_viol {env : List Mono} {cs : List Con} (he : errT cs = 0) (hv : ∃ c ∈ cs, ∃ u, sumE env c.2.1 c.1 = some u ∧ holdsB u c.2.2 = false) : ¬ ((normG (cs.map tp) [] true).2 = true ∧ ∀ x ∈ (normG (cs.map tp) [] true).1, HoldS env x) := by
  intro h
  obtain ⟨_, h2, _⟩ := (norm_sem env _ [] true List.Pairwise.nil).1 h
  obtain ⟨c, hc, u, e1, e2⟩ := hv
  obtain ⟨k1, k2⟩ := h2 (tp c) (List.mem_map.2 ⟨c, hc, rfl⟩)
  obtain ⟨u', g1, g2, g3, g4, g5, g6⟩ := tight_sum c env u (errT_all he c hc) e1
  have hk : (tightF c).2.1 = 0 := by
    have k2 : (tightF c).2.1 ≠ 2 := k2
    rcases g3 with g3 | g3
    · omega
    · rw [e2] at g3; cases g3
  obtain ⟨u2, s1, s2⟩ := k1 hk
  have s1 : sumE env (tightF c).1.2.1 (tightF c).1.1 = some u2 := s1
  rw [g1] at s1
  cases s1
  have s2 : holdsB u' (tightF c).1.2.2 = true := s2
  rw [← g2, e2] at s2
  cases s2

/-- What the law asks of the order of the two first violated constraints. -/
theorem norm_law (cs : List Con) (env : List Mono) (i : Int) (hf : firstF env cs 0 = (i, 0)) (he : (normF cs).2.2 = 0) :
    ((normF cs).2.1 = false → (normF cs).1 = [] ∧ i < cs.length) ∧
    ((normF cs).2.1 = true → ∀ k, firstF env (normF cs).1 0 = (k, 0) → (i = cs.length ↔ k = ((normF cs).1.length : Int))) := by
  rcases norm_ends cs with ⟨e, h1, h2⟩ | ⟨h1, _, h2⟩
  · rw [h2] at he; exact absurd he h1
  · have hle := (first_le env cs 0).1
    rw [hf] at hle
    have hle : i ≤ 0 + (cs.length : Int) := hle
    have hall : i = (cs.length : Int) → ∀ c ∈ cs, HoldS env c := fun h => first_all env cs 0 (by rw [hf]) (by rw [hf]; dsimp only; omega)
    have hvio : i ≠ (cs.length : Int) → ∃ c ∈ cs, ∃ u, sumE env c.2.1 c.1 = some u ∧ holdsB u c.2.2 = false := fun h => first_viol env cs 0 (by rw [hf]) (by rw [hf]; dsimp only; omega)
    by_cases hb : (normG (cs.map tp) [] true).2 = true
    · rw [if_pos hb] at h2
      rw [h2]
      refine ⟨fun h => absurd h (by simp), fun _ k hk => ?_⟩
      dsimp only at hk ⊢
      constructor
      · intro h
        have ha := (sem_all h1 (hall h)).2
        have hkl := (first_le env (normG (cs.map tp) [] true).1 0).1
        rw [hk] at hkl
        dsimp only at hkl
        by_cases hkn : k = ((normG (cs.map tp) [] true).1.length : Int)
        · exact hkn
        · obtain ⟨x, hx, u, e1, e2⟩ := first_viol env (normG (cs.map tp) [] true).1 0 (by rw [hk]) (by rw [hk]; dsimp only; omega)
          obtain ⟨u2, s1, s2⟩ := ha x hx
          rw [e1] at s1
          cases s1
          rw [e2] at s2
          cases s2
      · intro h
        have ha : ∀ x ∈ (normG (cs.map tp) [] true).1, HoldS env x := first_all env _ 0 (by rw [hk]) (by rw [hk]; dsimp only; omega)
        by_cases hi : i = (cs.length : Int)
        · exact hi
        · exact absurd ⟨hb, ha⟩ (sem_viol h1 (hvio hi))
    · rw [if_neg hb] at h2
      rw [h2]
      refine ⟨fun _ => ⟨rfl, ?_⟩, fun h => absurd h (by simp)⟩
      have : i ≠ (cs.length : Int) := fun h => hb (sem_all h1 (hall h)).1
      omega

/-! ### Idempotence -/
theorem keep_or (x c : Con) : keepC x c = x ∨ keepC x c = c := by unfold keepC; split; exact .inl rfl; exact .inr rfl
theorem ins_P {P : Con → Prop} {t : Con} {p : List Con} (hs : Srt p) (ht : P t) (hp : ∀ x ∈ p, P x) : ∀ x ∈ (insF t p).1, P x := by
  by_cases h : ∃ y ∈ p, y.2.1 = t.2.1
  · obtain ⟨y, hy, e⟩ := h
    rw [insF_old hs.dst hy e]
    intro x hx
    obtain ⟨z, hz, rfl⟩ := List.mem_map.1 hx
    unfold updC
    split
    · rcases keep_or y t with h | h <;> rw [h]
      · exact hp y hy
      · exact ht
    · exact hp z hz
  · intro x hx
    rcases ((insF_new (t := t) hs (fun x hx e => h ⟨x, hx, e⟩)).2.2 x).1 hx with rfl | hx
    · exact ht
    · exact hp x hx
theorem norm_P {P : Con → Prop} : ∀ (ts : List TCon) (p : List Con) (ft : Bool), Srt p → (∀ t ∈ ts, t.2 = 0 → P t.1) → (∀ x ∈ p, P x) → Srt (normG ts p ft).1 ∧ (∀ x ∈ (normG ts p ft).1, P x) ∧ (normG ts p ft).1.length ≤ p.length + ts.length
  | [], p, ft, hs, _, hp => ⟨hs, hp, by show p.length ≤ p.length + 0; omega⟩
  | t :: r, p, ft, hs, ht, hp => by
    rw [normG_cons]
    have hr : ∀ x ∈ r, x.2 = 0 → P x.1 := fun x hx => ht x (List.mem_cons_of_mem _ hx)
    by_cases h0 : t.2 = 0
    · rw [if_pos h0]
      obtain ⟨g1, g2, g3⟩ := norm_P r (insF t.1 p).1 (ft && (insF t.1 p).2) (insF_srt hs) hr (ins_P hs (ht t List.mem_cons_self h0) hp)
      refine ⟨g1, g2, Nat.le_trans g3 ?_⟩
      have : (insF t.1 p).1.length ≤ p.length + 1 := insG_len t.1 p p 0 p.length
      rw [List.length_cons]; omega
    · rw [if_neg h0]
      split
      · obtain ⟨g1, g2, g3⟩ := norm_P r p false hs hr hp
        exact ⟨g1, g2, by rw [List.length_cons]; omega⟩
      · obtain ⟨g1, g2, g3⟩ := norm_P r p ft hs hr hp
        exact ⟨g1, g2, by rw [List.length_cons]; omega⟩
theorem norm_tight (ts : List TCon) (p : List Con) (ft : Bool) (hs : Srt p) (h : ∀ t ∈ ts, t.2 = 0 → Tight t.1) (hp : ∀ x ∈ p, Tight x) : Srt (normG ts p ft).1 ∧ (∀ x ∈ (normG ts p ft).1, Tight x) ∧ (normG ts p ft).1.length ≤ p.length + ts.length := norm_P ts p ft hs h hp
theorem norm_asc : ∀ (r p : List Con), Srt (p ++ r) → normG (r.map fun x => (x, (0 : Int))) p true = (p ++ r, true)
  | [], p, _ => by rw [List.append_nil]; rfl
  | x :: r, p, h => by
    rw [List.map_cons, normG_cons, if_pos rfl]
    obtain ⟨h1, h2, h3⟩ := List.pairwise_append.1 h
    have hlt : ∀ y ∈ p, Lt y x := fun y hy => h3 y hy x List.mem_cons_self
    obtain ⟨g1, g2, g3⟩ := insF_new (t := x) h1 (fun y hy => (hlt y hy).ne)
    have hs : Srt (p ++ [x]) := List.pairwise_append.2 ⟨h1, List.pairwise_singleton _ _, fun a ha b hb => by
      obtain rfl := List.mem_singleton.1 hb
      exact hlt a ha⟩
    have e : (insF x p).1 = p ++ [x] := srt_ext _ _ g2 hs fun y => by
      rw [g3 y, List.mem_append, List.mem_singleton]
      exact Or.comm
    dsimp only
    rw [g1, e, Bool.and_true, norm_asc r (p ++ [x]) (by rw [List.append_assoc]; exact h), List.append_assoc]
    rfl
theorem norm_idem (cs : List Con) (h : (normF cs).2.1 = true) : normF (normF cs).1 = ((normF cs).1, true, 0) := by
  rcases norm_ends cs with ⟨e, _, h2⟩ | ⟨h1, hl, h2⟩
  · rw [h2] at h; cases h
  · by_cases hb : (normG (cs.map tp) [] true).2 = true
    · rw [if_pos hb] at h2
      rw [h2]
      dsimp only
      obtain ⟨g1, g2, g3⟩ := norm_tight (cs.map tp) [] true List.Pairwise.nil (fun t ht h0 => by
        obtain ⟨c, hc, rfl⟩ := List.mem_map.1 ht
        exact tight_idem c (errT_all h1 c hc) h0) (fun x hx => by cases hx)
      generalize (normG (cs.map tp) [] true).1 = n at g1 g2 g3 ⊢
      rw [List.length_map, List.length_nil] at g3
      have he : ∀ l : List Con, (∀ x ∈ l, Tight x) → errT l = 0 := by
        intro l
        induction l with
        | nil => exact fun _ => rfl
        | cons x r ih =>
          intro hx
          unfold errT
          have : (tightF x).2.2 = 0 := by rw [hx x List.mem_cons_self]
          rw [if_neg (by simp [this])]
          exact ih fun y hy => hx y (List.mem_cons_of_mem _ hy)
      have hm : n.map tp = n.map fun x => (x, (0 : Int)) := List.map_congr_left fun x hx => by
        unfold tp; rw [g2 x hx]
      rcases norm_ends n with ⟨e, k1, k2⟩ | ⟨k1, k2, k3⟩
      · exfalso
        unfold normF at k2
        rw [if_neg (by omega), allF_eq, he n g2] at k2
        simp only [ne_eq, not_true_eq_false, if_false, List.nil_append] at k2
        split at k2
        · exact k1 (congrArg (fun r : List Con × Bool × Int => r.2.2) k2).symm
        · exact k1 (congrArg (fun r : List Con × Bool × Int => r.2.2) k2).symm
      · rw [k3, hm, norm_asc n [] (by rw [List.nil_append]; exact g1), List.nil_append]
        rfl
    · rw [if_neg hb] at h2
      rw [h2] at h; cases h
theorem norm_fit (cs : List Con) (n : Nat) (hc : ∀ c ∈ cs, c.2.1.length ≤ n) : (∀ x ∈ (normF cs).1, x.2.1.length ≤ n) ∧ (normF cs).1.length ≤ cs.length := by
  rcases norm_ends cs with ⟨e, _, h2⟩ | ⟨h1, hl, h2⟩
  · rw [h2]; exact ⟨fun x hx => absurd hx (by simp), by simp⟩
  · obtain ⟨g1, g2, g3⟩ := norm_P (P := fun x => x.2.1.length ≤ n) (cs.map tp) [] true List.Pairwise.nil (fun t ht h0 => by
      obtain ⟨c, hm, rfl⟩ := List.mem_map.1 ht
      exact Nat.le_trans (tight_len c) (hc c hm)) (fun x hx => by cases hx)
    rw [List.length_map, List.length_nil] at g3
    rw [h2]
    split
    · exact ⟨g2, by dsimp only; omega⟩
    · exact ⟨fun x hx => absurd hx (by simp), by simp⟩
theorem norm_err (cs : List Con) (h : (normF cs).2.2 ≠ 0) : (normF cs).1 = [] ∧ (normF cs).2.1 = false := by
  rcases norm_ends cs with ⟨e, _, h2⟩ | ⟨_, _, h2⟩
  · rw [h2]; exact ⟨rfl, rfl⟩
  · rw [h2] at h
    split at h <;> exact absurd rfl h
end Go.Proofs.YtahlecmlhdikjaaDoor
