/-
  Sort and Compact: what they leave is what With makes.
-/
import Derived.Test.YtpccaifhcmcegaaDgU
import Derived.Test.YtpccaifhcmcegaaShelf
import Derived.Lib.OwnBridge
import Derived.Sort.OwnSorted
namespace Go.Proofs.Ytpccaifhcmcegaa
set_option linter.unusedSimpArgs false
open Go.ChangeShapes Go.WideShapes Go.ChangeAt Go.RowKit
set_option linter.unusedVariables false
set_option maxRecDepth 100000

theorem u8_tri (a b : UInt8) : a < b ∨ a = b ∨ b < a := by
  rcases Nat.lt_trichotomy a.toNat b.toNat with h | h | h
  · exact Or.inl (UInt8.lt_iff_toNat_lt.2 h)
  · exact Or.inr (Or.inl (UInt8.toNat_inj.1 h))
  · exact Or.inr (Or.inr (UInt8.lt_iff_toNat_lt.2 h))
theorem u8_asymm {a b : UInt8} (h : a < b) : ¬ b < a := fun g => by
  have := UInt8.lt_iff_toNat_lt.1 h
  have := UInt8.lt_iff_toNat_lt.1 g
  omega
theorem u8_trans {a b c : UInt8} (h : a < b) (g : b < c) : a < c := UInt8.lt_iff_toNat_lt.2 (Nat.lt_trans (UInt8.lt_iff_toNat_lt.1 h) (UInt8.lt_iff_toNat_lt.1 g))
theorem u8_irrefl (a : UInt8) : ¬ a < a := fun g => by have := UInt8.lt_iff_toNat_lt.1 g; omega

theorem bl_iff (a b : UInt8) (x y : List UInt8) : Op.bytesLess (a :: x) (b :: y) = true ↔ a < b ∨ (a = b ∧ Op.bytesLess x y = true) := by
  simp [Op.bytesLess]
theorem bl_irrefl : ∀ x : List UInt8, Op.bytesLess x x = false
  | [] => rfl
  | a :: x => by
    rw [← Bool.not_eq_true, bl_iff]
    rintro (h | ⟨_, h⟩)
    · exact u8_irrefl a h
    · rw [bl_irrefl x] at h; cases h
theorem bl_asymm : ∀ x y : List UInt8, Op.bytesLess x y = true → Op.bytesLess y x = false
  | [], [], h => by cases h
  | [], _ :: _, _ => rfl
  | _ :: _, [], h => by cases h
  | a :: x, b :: y, h => by
    rw [← Bool.not_eq_true, bl_iff]
    rcases (bl_iff a b x y).1 h with h1 | ⟨rfl, h1⟩
    · rintro (g | ⟨rfl, _⟩)
      · exact u8_asymm h1 g
      · exact u8_irrefl _ h1
    · rintro (g | ⟨_, g⟩)
      · exact u8_irrefl _ g
      · rw [bl_asymm x y h1] at g; cases g
theorem bl_total : ∀ x y : List UInt8, Op.bytesLess x y = false → Op.bytesLess y x = false → x = y
  | [], [], _, _ => rfl
  | [], _ :: _, h, _ => by cases h
  | _ :: _, [], _, h => by cases h
  | a :: x, b :: y, h, g => by
    rw [← Bool.not_eq_true, bl_iff] at h g
    rcases u8_tri a b with k | rfl | k
    · exact absurd (Or.inl k) h
    · rw [bl_total x y (by rw [← Bool.not_eq_true]; exact fun e => h (Or.inr ⟨rfl, e⟩)) (by rw [← Bool.not_eq_true]; exact fun e => g (Or.inr ⟨rfl, e⟩))]
    · exact absurd (Or.inl k) g
theorem bl_trans : ∀ x y z : List UInt8, Op.bytesLess x y = true → Op.bytesLess y z = true → Op.bytesLess x z = true
  | _, [], _, h, _ => by simp [Op.bytesLess] at h
  | _, _ :: _, [], _, h => by cases h
  | [], _ :: _, _ :: _, _, _ => rfl
  | a :: x, b :: y, c :: z, h, g => by
    rw [bl_iff] at h g ⊢
    rcases h with h | ⟨rfl, h⟩
    · rcases g with g | ⟨rfl, g⟩
      · exact Or.inl (u8_trans h g)
      · exact Or.inl h
    · rcases g with g | ⟨rfl, g⟩
      · exact Or.inl g
      · exact Or.inr ⟨rfl, bl_trans x y z h g⟩


theorem bl_lt : ∀ (x y : List UInt8), Op.bytesLess x y = decide (x < y)
  | [], [] => by simp [Op.bytesLess]
  | _ :: _, [] => by simp [Op.bytesLess]
  | [], _ :: _ => by simp [Op.bytesLess]
  | a :: x, b :: y => by
    rw [Op.bytesLess, bl_lt x y]
    simp only [List.cons_lt_cons_iff]
    by_cases h1 : a < b <;> by_cases h2 : a = b <;> by_cases h3 : x < y <;> simp [h1, h2, h3]
theorem le_bl (x y : List UInt8) : decide (x ≤ y) = !Op.bytesLess y x := by
  rw [bl_lt]
  by_cases h : y < x
  · have : ¬ x ≤ y := fun g => g h
    simp [h, this]
  · have : x ≤ y := h
    simp [h, this]
theorem sorted_bl (zs : List (List UInt8)) : (zs.mergeSort fun x y => decide (x ≤ y)).Pairwise fun x y => Op.bytesLess y x = false := by
  have h := List.pairwise_mergeSort (le := fun x y : List UInt8 => decide (x ≤ y)) (fun a b c h1 h2 => by
    rw [le_bl] at *
    cases hx : Op.bytesLess c a
    · rfl
    · have h1' : Op.bytesLess b a = false := by simpa using h1
      have h2' : Op.bytesLess c b = false := by simpa using h2
      cases hy : Op.bytesLess a b
      · have e := bl_total a b hy h1'
        subst e
        rw [hx] at h2'; cases h2'
      · have := bl_trans _ _ _ hx hy
        rw [this] at h2'; cases h2') (fun a b => by
    rw [le_bl, le_bl]
    cases hx : Op.bytesLess b a
    · rfl
    · rw [bl_asymm _ _ hx]; rfl) zs
  refine h.imp fun {a b} hab => ?_
  rw [le_bl] at hab
  simpa using hab

theorem comp_step (zs : List (List UInt8)) (hs : zs.Pairwise fun x y => Op.bytesLess y x = false) : ∀ m, m ≤ zs.length →
    (Lib.compactUpTo zs.toArray m).Pairwise (fun x y => Op.bytesLess x y = true) ∧ (∀ t ∈ Lib.compactUpTo zs.toArray m, ∃ j, j < m ∧ zs[j]? = some t) ∧ (∀ j t, j < m → zs[j]? = some t → t ∈ Lib.compactUpTo zs.toArray m) ∧ (∀ t ∈ Lib.compactUpTo zs.toArray m, ∀ u, zs[m - 1]? = some u → Op.bytesLess u t = false)
  | 0, _ => by
    have : Lib.compactUpTo zs.toArray 0 = [] := by simp [Lib.compactUpTo]
    rw [this]
    exact ⟨List.Pairwise.nil, (fun t ht => absurd ht (by simp)), (fun j t hj => absurd hj (by omega)), (fun t ht => absurd ht (by simp))⟩
  | m + 1, hm => by
    obtain ⟨h1, h2, h3, h4⟩ := comp_step zs hs m (by omega)
    have hml : m < zs.length := by omega
    have hmm : zs[m]? = some zs[m] := List.getElem?_eq_getElem hml
    have e0 : zs.toArray[m]! = zs[m] := by simp [getElem!_pos, hml]
    have hpw := List.pairwise_iff_getElem.1 hs
    rw [Lib.compactUpTo_succ, e0]
    by_cases hk : Lib.keeps zs.toArray m = true
    · rw [if_pos hk]
      have key : ∀ t ∈ Lib.compactUpTo zs.toArray m, Op.bytesLess t zs[m] = true := by
        intro t ht
        obtain ⟨j, hj, hjt⟩ := h2 t ht
        have hj0 : 0 < m := by omega
        have hpl : m - 1 < zs.length := by omega
        have ep : zs[m - 1]? = some zs[m - 1] := List.getElem?_eq_getElem hpl
        have hle := h4 t ht _ ep
        have hne : zs[m] ≠ zs[m - 1] := by
          unfold Lib.keeps at hk
          have hh := of_decide_eq_true hk
          rcases hh with hh | hh
          · omega
          · have e1 : zs.toArray[m - 1]! = zs[m - 1] := by simp [getElem!_pos, hpl]
            rw [e0, e1] at hh; exact hh
        have hlt : Op.bytesLess zs[m - 1] zs[m] = true := by
          have h5 := hpw (m - 1) m hpl hml (by omega)
          cases hx : Op.bytesLess zs[m - 1] zs[m]
          · exact absurd (bl_total _ _ h5 hx) hne
          · rfl
        cases hy : Op.bytesLess t zs[m - 1]
        · have := bl_total _ _ hy hle
          rw [this]; exact hlt
        · exact bl_trans _ _ _ hy hlt
      refine ⟨?_, ?_, ?_, ?_⟩
      · rw [List.pairwise_append]
        exact ⟨h1, List.pairwise_singleton _ _, fun a ha b hb => by rw [List.mem_singleton.1 hb]; exact key a ha⟩
      · intro t ht
        rcases List.mem_append.1 ht with ht | ht
        · obtain ⟨j, hj, hjt⟩ := h2 t ht
          exact ⟨j, by omega, hjt⟩
        · rw [List.mem_singleton.1 ht]; exact ⟨m, by omega, hmm⟩
      · intro j t hj hjt
        by_cases e : j = m
        · subst e; rw [hmm] at hjt; cases hjt; simp
        · exact List.mem_append.2 (Or.inl (h3 j t (by omega) hjt))
      · intro t ht u hu
        have eu : zs[m]? = some u := hu
        rw [hmm] at eu; cases eu
        rcases List.mem_append.1 ht with ht | ht
        · exact bl_asymm _ _ (key t ht)
        · rw [List.mem_singleton.1 ht, bl_irrefl]
    · rw [if_neg hk, List.append_nil]
      have hm0 : 0 < m := by
        cases m with
        | zero => exact absurd (by simp [Lib.keeps]) hk
        | succ k => omega
      have hpl : m - 1 < zs.length := by omega
      have ep : zs[m - 1]? = some zs[m - 1] := List.getElem?_eq_getElem hpl
      have heq : zs[m] = zs[m - 1] := by
        have e1 : zs.toArray[m - 1]! = zs[m - 1] := by simp [getElem!_pos, hpl]
        unfold Lib.keeps at hk
        rw [e0, e1] at hk
        by_cases h : zs[m] = zs[m - 1]
        · exact h
        · exact absurd (by simp [h]) hk
      refine ⟨h1, fun t ht => ?_, fun j t hj hjt => ?_, fun t ht u hu => ?_⟩
      · obtain ⟨j, hj, hjt⟩ := h2 t ht
        exact ⟨j, by omega, hjt⟩
      · by_cases e : j = m
        · subst e
          rw [hmm] at hjt; cases hjt
          exact h3 (j - 1) _ (by omega) (by rw [ep, heq])
        · exact h3 j t (by omega) hjt
      · have eu : zs[m]? = some u := hu
        rw [hmm] at eu; cases eu
        exact h4 t ht _ (by rw [ep, heq])
theorem comp_facts (zs : List (List UInt8)) (hs : zs.Pairwise fun x y => Op.bytesLess y x = false) : (Lib.compact zs).Pairwise (fun x y => Op.bytesLess x y = true) ∧ ∀ t, t ∈ Lib.compact zs ↔ t ∈ zs := by
  obtain ⟨h1, h2, h3, _⟩ := comp_step zs hs zs.length (Nat.le_refl _)
  refine ⟨h1, fun t => ⟨fun ht => ?_, fun ht => ?_⟩⟩
  · obtain ⟨j, _, hj⟩ := h2 t ht
    exact List.mem_of_getElem? hj
  · obtain ⟨j, hj, e⟩ := List.getElem_of_mem ht
    exact h3 j t hj (by rw [List.getElem?_eq_getElem hj, e])

def mkS (l : List UInt8) : ByteArray := ⟨l.toArray⟩
theorem mkS_toList (l : List UInt8) : (mkS l).toList = l := ByteArray.toList_mk _
theorem mkS_data (s : ByteArray) : mkS s.data.toList = s := Lib.mk_data s
def sortN (all : List ByteArray) : List ByteArray := (Lib.compact ((all.map (·.data.toList)).mergeSort fun x y => decide (x ≤ y))).map mkS
theorem mem_sortN (all : List ByteArray) (t : ByteArray) : t ∈ sortN all ↔ t ∈ all := by
  obtain ⟨_, h2⟩ := comp_facts _ (sorted_bl (all.map (·.data.toList)))
  unfold sortN
  rw [List.mem_map]
  constructor
  · rintro ⟨l, hl, rfl⟩
    rw [h2, List.mem_mergeSort, List.mem_map] at hl
    obtain ⟨s, hs, rfl⟩ := hl
    rw [mkS_data]; exact hs
  · intro ht
    refine ⟨t.data.toList, ?_, mkS_data t⟩
    rw [h2, List.mem_mergeSort]
    exact List.mem_map.2 ⟨t, ht, rfl⟩
theorem strsV_enc (l : List ByteArray) : strsV l = (l.map (·.data.toList)).map encStr := (Lib.map_encStr l).symm
theorem below_grow {B : Nat} {w0 w : World} (h : Below B w0 w) (hB : B ≤ w.heap.size) (os : Array Obj) : Below B w0 (Sort.grow w os) :=
  h.trans ⟨rfl, rfl, rfl, by simp, fun k hk => Sort.heap_grow_old w os (by omega)⟩
theorem own_strsV {base : Nat} {w : World} {v : Value} {l : List ByteArray} (h : OwnS base w v l) : w.ownsRow base 9 1 v l.length (strsV l) := by
  obtain ⟨F, h1, h2⟩ := h
  have e : flat F l.length 1 = strsV l := by
    rw [flat_one]
    unfold strsV
    apply List.ext_getElem?
    intro i
    rw [List.getElem?_map, List.getElem?_map]
    by_cases hi : i < l.length
    · rw [List.getElem?_range hi, List.getElem?_eq_getElem hi]
      exact congrArg some (h2 i hi).1
    · rw [List.getElem?_eq_none (by simpa using hi), List.getElem?_eq_none (by simpa using hi)]; rfl
  rw [← e]; exact h1
theorem own_sizes {base : Nat} {w : World} {v : Value} {l : List ByteArray} (h : OwnS base w v l) : ∀ s ∈ l, s.size ≤ maxLen := fun s hs => by
  obtain ⟨F, h1, h2⟩ := h
  obtain ⟨i, hi, rfl⟩ := List.mem_iff_getElem.1 hs
  exact (h2 i hi).2
/-- What Sort and Compact leave of a row of strings of the call's own. -/
theorem tail_names (B : Nat) (w0 : World) (hB : w0.heap.size = B) (v : Value) (all : List ByteArray) (w : World) (hU : Up w0 w) (hown : w.ownsRow B 9 1 v all.length (strsV all)) (hn : all.length ≤ 3000000) (hsz : ∀ s ∈ all, s.size ≤ maxLen) :
    Calls Try.prog 58 #[v] w fun e w1 => e = .returned (.tuple #[]) ∧ Calls Try.prog 59 #[v] w1 fun e w2 => ∃ v2, e = .returned v2 ∧ LsN B w2 v2 (sortN all) ∧ Up w0 w2 ∧ ∀ D, D < w.heap.size → v.ownBlock ≠ some D → w2.heap[D]? = w.heap[D]? := by
  by_cases h0 : all = []
  · subst h0
    obtain ⟨a, cap, rfl⟩ := own_slice hown
    refine (Try.slices_Sort_string_none a cap w).mono fun e w1 ⟨he, hw⟩ => ⟨he, ?_⟩
    rw [hw]
    refine (Try.slices_Compact_string_empty a cap w).mono fun e w2 ⟨he, hw⟩ => ?_
    rw [hw]
    have e0 : sortN [] = [] := by
      cases h : sortN [] with
      | nil => rfl
      | cons x r => exact absurd ((mem_sortN [] x).1 (by rw [h]; simp)) (by simp)
    refine ⟨_, he, ?_, hU, fun _ _ _ => rfl⟩
    rw [e0]
    refine ⟨⟨⟨a, cap, rfl, Nat.zero_le _⟩, by simp, fun _ _ => undef, ⟨⟨a, cap, rfl, (fun _ => rfl), fun x hx hl => absurd hl (by simp)⟩, by decide⟩, fun i hi => absurd hi (by simp)⟩, own_new hown⟩
  · have hlen : 0 < all.length := by
      cases all with
      | nil => exact absurd rfl h0
      | cons x r => simp
    have hne : v ≠ .slice none 0 0 := by
      rcases hown.2 with ⟨_, hz⟩ | ⟨g, cap, cur, rfl, _⟩
      · omega
      · intro h; cases h
    rw [strsV_enc] at hown
    obtain ⟨g, cap, rfl, hg1, hg2, hc1, hc2, hl, hH⟩ := Lib.holds_of_ownsRow hown hne
    obtain ⟨ss, hss⟩ : ∃ ss, all.map (·.data.toList) = ss := ⟨_, rfl⟩
    rw [hss] at hown hl hH
    have hsl : ss.length = all.length := hl
    obtain ⟨ts, hts⟩ : ∃ ts, (ss.mergeSort fun x y => decide (x ≤ y)) = ts := ⟨_, rfl⟩
    have htl : ts.length = ss.length := by rw [← hts, List.length_mergeSort]
    have hS := Try.slices_Sort_string g 0 cap ss w hH hg2 (by omega)
    rw [hsl, hts] at hS
    refine hS.mono fun e w1 ⟨he, n, os, hw⟩ => ⟨he, ?_⟩
    obtain ⟨cur, hcur, hcs⟩ : ∃ cur, w.heap[g]? = some (.cells cur 9 (0, 0)) ∧ cur.size = cap * 1 := by
      rcases hown.2 with ⟨hv, _⟩ | ⟨g', cap', cur, hv, _, hg, _, _, hs, _⟩
      · cases hv
      · simp only [Value.slice.injEq, Option.some.injEq, Addr.mk.injEq] at hv
        obtain ⟨⟨rfl, _⟩, _, rfl⟩ := hv
        exact ⟨cur, hg, hs⟩
    have hown1 : w1.ownsRow B 9 1 (.slice (some ⟨g, 0, none⟩) ts.length cap) ts.length (ts.map encStr) := by
      rw [hw, htl]
      exact ownsRow_sorted htl hg1 hcur (by omega) hc2 hcs
    have hU1 : Below B w0 w1 := by
      rw [hw]
      exact below_grow (Lib.below_putRow (hB ▸ hU) hg1) (by simp; omega) os
    have hH1 : Sort.Holds encStr w1 g 0 ts.toArray := by
      obtain ⟨g', cap', hv', _, _, _, _, _, hH1⟩ := Lib.holds_of_ownsRow hown1 (by intro h; cases h)
      simp only [Value.slice.injEq, Option.some.injEq, Addr.mk.injEq] at hv'
      obtain ⟨⟨rfl, _⟩, _, rfl⟩ := hv'
      exact hH1
    have hC := Try.slices_Compact_string g 0 cap ts w1 hH1 (by omega) (by omega)
    rw [show ts.length = all.length by omega] at hC
    refine hC.mono fun e w2 ⟨he, q, hw2⟩ => ?_
    have hcl : (Lib.compact ts).length ≤ ts.length := by
      unfold Lib.compact Lib.compactUpTo
      rw [List.length_map]
      exact Nat.le_trans (List.length_filter_le _ _) (by simp)
    have hown2 := Lib.ownsRow_putRow (q := q) (ys := Lib.compact ts ++ List.replicate (all.length - (Lib.compact ts).length) []) hown1 (by simp; omega) (k := (Lib.compact ts).length) hcl
    rw [← hw2, List.take_left] at hown2
    refine ⟨_, he, ?_, ?_, fun D hD hDn => ?_⟩
    · have e1 : (Lib.compact ts).map encStr = strsV (sortN all) := by
        rw [strsV_enc]
        unfold sortN
        rw [hss, hts, List.map_map, List.map_map]
        refine List.map_congr_left fun x _ => ?_
        simp [mkS, Function.comp]
      have e2 : (Lib.compact ts).length = (sortN all).length := by unfold sortN; rw [hss, hts, List.length_map]
      rw [e1] at hown2
      refine ⟨LsAt.of_own hown2 e2.symm (by omega) (fun s hs => hsz s ((mem_sortN all s).1 hs)), own_new hown2⟩
    · rw [hw2]
      have := Lib.below_putRow (enc := encStr) (q := q) (d := (Lib.compact ts ++ List.replicate (all.length - (Lib.compact ts).length) []).toArray) hU1 hg1
      unfold Up; rw [hB]; exact this
    · have hgD : g ≠ D := fun e => hDn (by rw [e]; rfl)
      rw [hw2, hw]
      simp only [Sort.putRow, Sort.mapBlock, Sort.ahead, Array.getElem?_modify, if_neg hgD]
      rw [Sort.heap_grow_old _ _ (by simpa using hD)]
      simp only [Sort.putRow, Sort.mapBlock, Array.getElem?_modify, if_neg hgD]


/-! ### With -/
def asc (l : List ByteArray) : Prop := l.Pairwise fun a b => lt a b = true
theorem lt_trans' {a b c : ByteArray} (h : lt a b = true) (g : lt b c = true) : lt a c = true := bl_trans _ _ _ h g
theorem lt_irr (a : ByteArray) : lt a a = false := bl_irrefl _
theorem wth_asc : ∀ (l : List ByteArray) (s : ByteArray), asc l → asc (wth l s)
  | [], s, _ => by rw [wth]; exact List.pairwise_singleton _ _
  | x :: r, s, h => by
    have h' := List.pairwise_cons.1 h
    rw [wth]
    split
    · rename_i h1
      refine List.pairwise_cons.2 ⟨fun y hy => ?_, wth_asc r s h'.2⟩
      rcases (wth_mem r s y).1 hy with hy | rfl
      · exact h'.1 y hy
      · exact h1
    · split
      · exact h
      · rename_i h1 h2
        have hsx : lt s x = true := by
          cases e : lt s x
          · exact absurd (by
              have := bl_total _ _ (show Op.bytesLess x.toList s.toList = false from by cases hh : lt x s with | false => exact hh | true => exact absurd hh h1) e
              rw [← mkS_data x, ← mkS_data s]
              rw [Lib.toList_data, Lib.toList_data] at this
              rw [this]) h2
          · rfl
        refine List.pairwise_cons.2 ⟨fun y hy => ?_, h⟩
        rcases List.mem_cons.1 hy with rfl | hy
        · exact hsx
        · exact lt_trans' hsx (h'.1 y hy)
theorem foldl_wth_asc : ∀ (m l : List ByteArray), asc l → asc (m.foldl wth l)
  | [], l, h => h
  | s :: r, l, h => foldl_wth_asc r _ (wth_asc l s h)
theorem foldl_wth_mem : ∀ (m l : List ByteArray) (x : ByteArray), x ∈ m.foldl wth l ↔ x ∈ l ∨ x ∈ m
  | [], l, x => by simp
  | s :: r, l, x => by
    rw [List.foldl_cons, foldl_wth_mem r, wth_mem, List.mem_cons]
    constructor
    · rintro ((h | h) | h)
      · exact .inl h
      · exact .inr (.inl h)
      · exact .inr (.inr h)
    · rintro (h | h | h)
      · exact .inl (.inl h)
      · exact .inl (.inr h)
      · exact .inr h
theorem asc_same : ∀ (a b : List ByteArray), asc a → asc b → (∀ x, x ∈ a ↔ x ∈ b) → a = b
  | [], [], _, _, _ => rfl
  | [], y :: s, _, _, h => absurd ((h y).2 List.mem_cons_self) (by simp)
  | x :: r, [], _, _, h => absurd ((h x).1 List.mem_cons_self) (by simp)
  | x :: r, y :: s, ha, hb, h => by
    have ha' := List.pairwise_cons.1 ha
    have hb' := List.pairwise_cons.1 hb
    have e : x = y := by
      rcases List.mem_cons.1 ((h x).1 List.mem_cons_self) with e | hx
      · exact e
      · rcases List.mem_cons.1 ((h y).2 List.mem_cons_self) with e | hy
        · exact e.symm
        · have h1 := hb'.1 x hx
          have h2 := ha'.1 y hy
          have h3 := lt_trans' h1 h2
          rw [lt_irr] at h3
          cases h3
    subst e
    refine congrArg _ (asc_same r s ha'.2 hb'.2 fun z => ⟨fun hz => ?_, fun hz => ?_⟩)
    · rcases List.mem_cons.1 ((h z).1 (List.mem_cons_of_mem _ hz)) with rfl | hz'
      · have := ha'.1 z hz
        rw [lt_irr] at this
        cases this
      · exact hz'
    · rcases List.mem_cons.1 ((h z).2 (List.mem_cons_of_mem _ hz)) with rfl | hz'
      · have := hb'.1 z hz
        rw [lt_irr] at this
        cases this
      · exact hz'
theorem sortN_asc (all : List ByteArray) : asc (sortN all) := by
  obtain ⟨h1, _⟩ := comp_facts _ (sorted_bl (all.map (·.data.toList)))
  unfold asc sortN
  rw [List.pairwise_map]
  exact h1.imp fun {a b} hab => by unfold lt; rw [mkS_toList, mkS_toList]; exact hab
theorem sortN_eq (all : List ByteArray) : sortN all = all.foldl wth [] :=
  asc_same _ _ (sortN_asc all) (foldl_wth_asc all [] List.Pairwise.nil) fun x => by
    rw [mem_sortN, foldl_wth_mem]
    simp

set_option maxHeartbeats 4000000 in
/-- sorted of the program: on a row of the call's own. -/
theorem ex_sorted_at (w0 : World) (v : Value) (all : List ByteArray) (w : World) (hU : Up w0 w) (hown : OwnS w0.heap.size w v all) (hn : all.length ≤ 3000000) :
    Calls Try.prog 45 #[v] w fun e w' => ∃ u, e = .returned u ∧ Up w0 w' ∧ LsN w0.heap.size w' u (all.foldl wth []) ∧ ∀ D, D < w.heap.size → v.ownBlock ≠ some D → w'.heap[D]? = w.heap[D]? := by
  have hrow : w.ownsRow w0.heap.size 9 1 v all.length (strsV all) := own_strsV hown
  have HT := Lib.hid (tail_names w0.heap.size w0 rfl v all w hU hrow hn (own_sizes hown))
  obtain ⟨a, c, rfl⟩ := hown.shape
  obtain ⟨n, hnn⟩ : ∃ n, all.length = n := ⟨_, rfl⟩
  rw [hnn] at HT ⊢
  clear hown hrow hn hnn
  go_enter Try.func45, Try.ntmps45
  go_wp2_with (first
    | (go_at_call 58; (with_reducible refine HT.out.mono ?_); rintro e' w1 ⟨rfl, hc⟩; have HC := Lib.hid hc; clear hc)
    | (go_at_call 59; (with_reducible refine HC.out.mono ?_); rintro e' w2 ⟨v2, rfl, hl, hu, hd⟩; have HL := Lib.hid hl; have HU2 := Lib.hid hu; have HD := Lib.hid hd; clear hl hu hd))
  go_ret
  refine ⟨_, rfl, HU2.out, ?_, HD.out⟩
  rw [← sortN_eq]
  exact HL.out
theorem ex_sorted (w0 : World) (v : Value) (all : List ByteArray) (w : World) (hU : Up w0 w) (hown : OwnS w0.heap.size w v all) (hn : all.length ≤ 3000000) :
    Calls Try.prog 45 #[v] w fun e w' => ∃ u, e = .returned u ∧ Up w0 w' ∧ LsN w0.heap.size w' u (all.foldl wth []) :=
  (ex_sorted_at w0 v all w hU hown hn).mono fun _ _ ⟨u, h1, h2, h3, _⟩ => ⟨u, h1, h2, h3⟩
end Go.Proofs.Ytpccaifhcmcegaa
