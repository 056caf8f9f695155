/-
  Targets of the reference. Printed by mkIsTr.py.
-/
import Derived.Test.YtlglfdhiopnglaaGreatDoorIsTp
namespace Go.Proofs.YtlglfdhiopnglaaGreatDoor
open Go.ChangeShapes Go.WideShapes Go.ChangeAt Go.RowKit
set_option linter.unusedVariables false
set_option linter.unusedSimpArgs false
set_option maxRecDepth 100000

/-- Where a number belongs. -/
def posG (a : Int) : List Int → Nat
  | [] => 0
  | y :: r => if y < a then posG a r + 1 else 0
def insT (a : Int) (ys : List Int) : List Int := if posG a ys < ys.length ∧ ys.getD (posG a ys) 0 = a then ys else (ys.take (posG a ys) ++ [a]) ++ ys.drop (posG a ys)
def rT (ys : List Int) (ts : List Int) : List Int := ts.foldl (fun acc a => insT a acc) ys
theorem posG_le (a : Int) : ∀ ys : List Int, posG a ys ≤ ys.length
  | [] => Nat.le_refl _
  | y :: r => by
    have := posG_le a r
    unfold posG
    split
    · rw [List.length_cons]; omega
    · exact Nat.zero_le _
theorem posG_lt (a : Int) : ∀ ys : List Int, ∀ t ∈ ys.take (posG a ys), t < a
  | [], t, h => by simp at h
  | y :: r, t, h => by
    unfold posG at h
    split at h
    · rename_i hy
      rw [List.take_succ_cons] at h
      rcases List.mem_cons.1 h with rfl | h
      · exact hy
      · exact posG_lt a r t h
    · simp at h
theorem posG_ge (a : Int) : ∀ ys : List Int, ys.Pairwise (fun x y => x < y) → ∀ t ∈ ys.drop (posG a ys), a ≤ t
  | [], _, t, h => by simp at h
  | y :: r, hp, t, h => by
    rw [List.pairwise_cons] at hp
    unfold posG at h
    split at h
    · rw [List.drop_succ_cons] at h
      exact posG_ge a r hp.2 t h
    · rename_i hy
      rw [List.drop_zero] at h
      rcases List.mem_cons.1 h with rfl | h
      · omega
      · have := hp.1 t h; omega
theorem insT_facts (a : Int) {ys : List Int} (hp : ys.Pairwise fun x y => x < y) : (insT a ys).Pairwise (fun x y => x < y) ∧ ∀ t, t ∈ insT a ys ↔ t = a ∨ t ∈ ys := by
  unfold insT
  split
  · rename_i h
    refine ⟨hp, fun t => ⟨.inr, fun ht => ?_⟩⟩
    rcases ht with rfl | ht
    · rw [← h.2, List.getD_eq_getElem?_getD, List.getElem?_eq_getElem h.1]
      exact List.getElem_mem h.1
    · exact ht
  · rename_i h
    have h1 := posG_lt a ys
    have h2 := posG_ge a ys hp
    have hsp := List.take_append_drop (posG a ys) ys
    have hp2 := hp
    rw [← hsp, List.pairwise_append] at hp2
    obtain ⟨p1, p2, p3⟩ := hp2
    have h3 : ∀ t ∈ ys.drop (posG a ys), a < t := fun t ht => by
      have hle := h2 t ht
      by_cases e : a = t
      · exfalso
        subst e
        have hlt : posG a ys < ys.length := by
          rcases Nat.lt_or_ge (posG a ys) ys.length with h' | h'
          · exact h'
          · rw [List.drop_eq_nil_of_le h'] at ht; cases ht
        refine h ⟨hlt, ?_⟩
        rw [List.drop_eq_getElem_cons hlt] at ht p2 h2
        rw [List.getD_eq_getElem?_getD, List.getElem?_eq_getElem hlt]
        rcases List.mem_cons.1 ht with e | ht
        · exact e.symm
        · rw [List.pairwise_cons] at p2
          have k1 := p2.1 a ht
          have k2 := h2 _ List.mem_cons_self
          omega
      · omega
    refine ⟨?_, fun t => ?_⟩
    · rw [List.append_assoc, List.pairwise_append]
      refine ⟨p1, ?_, fun x hx y hy => ?_⟩
      · rw [List.singleton_append, List.pairwise_cons]
        exact ⟨h3, p2⟩
      · rw [List.singleton_append] at hy
        rcases List.mem_cons.1 hy with rfl | hy
        · exact h1 x hx
        · exact p3 x hx y hy
    · have e : t ∈ ys ↔ t ∈ ys.take (posG a ys) ∨ t ∈ ys.drop (posG a ys) := by
        rw [← List.mem_append, hsp]
      rw [List.append_assoc, List.mem_append, List.singleton_append, List.mem_cons, e]
      constructor
      · rintro (h | h | h)
        · exact .inr (.inl h)
        · exact .inl h
        · exact .inr (.inr h)
      · rintro (h | h | h)
        · exact .inr (.inl h)
        · exact .inl h
        · exact .inr (.inr h)
theorem rT_facts : ∀ (ts : List Int) {ys : List Int}, ys.Pairwise (fun x y => x < y) → (rT ys ts).Pairwise (fun x y => x < y) ∧ ∀ t, t ∈ rT ys ts ↔ t ∈ ys ∨ t ∈ ts
  | [], ys, hp => ⟨hp, fun t => by simp [rT]⟩
  | a :: ts, ys, hp => by
    obtain ⟨h1, h2⟩ := insT_facts a hp
    obtain ⟨g1, g2⟩ := rT_facts ts h1
    refine ⟨g1, fun t => ?_⟩
    have e : rT ys (a :: ts) = rT (insT a ys) ts := rfl
    rw [e, g2 t, h2 t, List.mem_cons]
    constructor
    · rintro ((h | h) | h)
      · exact .inr (.inl h)
      · exact .inl h
      · exact .inr (.inr h)
    · rintro (h | h | h)
      · exact .inl (.inr h)
      · exact .inl (.inl h)
      · exact .inr h
theorem rT_sort (ts : List Int) : rT [] ts = sortI ts := by
  obtain ⟨h1, h2⟩ := rT_facts ts (ys := []) List.Pairwise.nil
  obtain ⟨g1, g2⟩ := sortI_facts ts
  exact rising_eq _ _ h1 g1 fun t => by rw [h2, g2]; simp

theorem IntsAt.up' {w w' : World} {v : Value} {l : List Int} (h : IntsAt w v l) (u : Up w w') : IntsAt w' v l := SlAt.up h u
theorem IntsAt.head {w : World} {a : Option Addr} {n c : Nat} {M : List Int} (h : IntsAt w (.slice a n c) M) (hn : M.length = n) (hi : Nat) (h2 : hi ≤ n) : SlAt w (.slice a hi c) hi 1 (fun i _ => .int .i64 ((M.take hi).getD i 0)) := by
  subst hn
  obtain ⟨⟨a', c', hv, h0, hx⟩, hmx⟩ := h
  simp only [Value.slice.injEq] at hv
  obtain ⟨rfl, -, rfl⟩ := hv
  refine ⟨⟨_, _, rfl, fun e => by have := h0 e; omega, fun x hx' hp => ?_⟩, by omega⟩
  obtain ⟨g1, g2, g3⟩ := hx x hx' (by omega)
  refine ⟨g1, g2, fun i j hi' hj => ?_⟩
  rw [g3 i j (by omega) hj]
  rw [List.getD_eq_getElem?_getD, List.getD_eq_getElem?_getD, List.getElem?_take, if_pos (by omega)]
theorem IntsAt.tail {w : World} {a : Option Addr} {n c : Nat} {M : List Int} (h : IntsAt w (.slice a n c) M) (hn : M.length = n) (hc : n ≤ c) (lo : Nat) (h2 : lo ≤ n) : SlAt w (.slice (if c = lo then a else a.map (·.add lo)) (n - lo) (c - lo)) (n - lo) 1 (fun i _ => .int .i64 ((M.drop lo).getD i 0)) := by
  subst hn
  obtain ⟨⟨a', c', hv, h0, hx⟩, hmx⟩ := h
  simp only [Value.slice.injEq] at hv
  obtain ⟨rfl, -, rfl⟩ := hv
  refine ⟨⟨_, _, rfl, fun e => ?_, fun x hx' hp => ?_⟩, by omega⟩
  · by_cases hml : c = lo
    · omega
    · rw [if_neg hml] at e
      cases a with
      | none => have := h0 rfl; omega
      | some _ => cases e
  · by_cases hml : c = lo
    · omega
    · rw [if_neg hml] at hx'
      cases a with
      | none => cases hx'
      | some y =>
        obtain ⟨g1, g2, g3⟩ := hx y rfl (by omega)
        obtain ⟨yb, yo, ys⟩ := y
        obtain rfl : ys = none := g1
        simp only [Option.map_some, Option.some.injEq, add_lit_ne] at hx'
        subst hx'
        refine ⟨rfl, g2, fun i j hi' hj => ?_⟩
        obtain rfl : j = 0 := by omega
        have := g3 (lo + i) 0 (by omega) (by omega)
        show w.cell? ⟨yb, yo + lo + i * 1 + 0, none⟩ = _
        rw [show yo + lo + i * 1 + 0 = yo + (lo + i) * 1 + 0 by omega, this]
        rw [List.getD_eq_getElem?_getD, List.getD_eq_getElem?_getD, List.getElem?_drop]
theorem SlAt.none (w : World) (a : Option Addr) (c : Nat) {k : Nat} {f : Nat → Nat → Value} : SlAt w (.slice a 0 c) 0 k f := ⟨⟨a, c, rfl, fun _ => rfl, fun x _ h => absurd h (by omega)⟩, by decide⟩
theorem int_flat' (l : List Int) {n : Nat} (h : l.length = n) : flat (fun i _ => Value.int .i64 (l.getD i 0)) n 1 = intV l := by
  subst h
  rw [flat_one]
  apply List.ext_getElem?
  intro i
  unfold intV
  rw [List.getElem?_map, List.getElem?_map]
  by_cases hi : i < l.length
  · rw [List.getElem?_range hi, List.getElem?_eq_getElem hi]
    simp only [Option.map_some]
    rw [List.getD_eq_getElem?_getD, List.getElem?_eq_getElem hi]; rfl
  · rw [List.getElem?_eq_none (by rw [List.length_range]; omega), List.getElem?_eq_none (by omega)]; rfl
theorem int_nil (l : List Int) {n : Nat} (h : l.length = n) : [] ++ flat (fun i _ => Value.int .i64 (l.getD i 0)) n 1 = intV l := by rw [List.nil_append, int_flat' l h]
theorem int_app (a b : List Int) {n : Nat} (h : b.length = n) : intV a ++ flat (fun i _ => Value.int .i64 (b.getD i 0)) n 1 = intV (a ++ b) := by rw [int_flat' b h]; simp [intV]
theorem own_cap {w : World} {base n k c : Nat} {a : Option Addr} {e : TypeId} {xs : List Value} (h : w.ownsRow base e k (.slice a n c) n xs) : n ≤ c := by
  rcases h.2 with ⟨h1, h2⟩ | ⟨g, cap, cur, hv, _, _, h3, _⟩
  · omega
  · injection hv with h1 h2 h3'
    omega

set_option maxHeartbeats 16000000 in
theorem r47_Targets (v : Value) (l : List Ins) (w : World) (hv : InsAt w v l) (hlen : l.length ≤ 100000) :
    Calls Tryz.prog 22 #[v] w fun e w' => ∃ v', e = .returned v' ∧ Up w w' ∧ IntsAt w' v' (rT [] (tgtL l)) := by
  obtain ⟨ii, hii, iz0, iz1, iz2⟩ := info_parts int_info
  obtain ⟨r, hr⟩ : ∃ r, rT [] (tgtL l) = r := ⟨_, rfl⟩
  rw [hr]
  have HV := Lib.hid hv
  obtain ⟨⟨a, cap, rfl⟩, hmax⟩ := hv.slice
  obtain ⟨n, hn⟩ : ∃ n, l.length = n := ⟨_, rfl⟩
  rw [hn] at hmax hlen ⊢
  have HN := Lib.hid hn
  have HR : Hid (rT [] (tgtL l) = r) := Lib.hid hr
  obtain ⟨B, hB⟩ : ∃ B, w.heap.size = B := ⟨_, rfl⟩
  have HB := Lib.hid hB
  clear hn hr hv hB
  have hmI : (n : Int) ≤ 100000 := by omega
  go_enter Tryz.func22, Tryz.ntmps22
  go_wp2
  go_loopw [3, 4] (fun ov kv wr => ∃ (k : Nat) (ys : List Int), k ≤ n ∧ kv = .int .i64 k ∧ ys.length ≤ k ∧ wr.ownsRow B 3 1 ov ys.length (intV ys) ∧ rT ys (tgtL (l.drop k)) = r ∧ Up w wr) (fun _ kv _ => n - (intOf kv).toNat)
  case atStart => exact ⟨0, [], by omega, rfl, Nat.le_refl _, World.ownsRow_nil _ _ _ _, by rw [List.drop_zero]; exact HR.out, Up.refl w⟩
  case round =>
    rename World => wr
    obtain ⟨k, ys, hk, rfl, hyk, hown, hf, hU⟩ := hrel
    obtain ⟨va, vc, rfl⟩ := own_slice hown
    obtain ⟨m, hm⟩ : ∃ m, ys.length = m := ⟨_, rfl⟩
    rw [hm] at hown hyk
    rw [hm]
    have HOWN := Lib.hid hown
    have HYL := Lib.hid hm
    have HU := Lib.hid hU
    have HCP := Lib.hid (own_cap hown)
    have HIY : Hid (IntsAt wr (.slice va m vc) ys) := Lib.hid (IntsAt.own hown hm (by omega))
    clear hown hU hm
    by_cases hlt : k < n
    · have hltI : (k : Int) < n := by omega
      obtain ⟨x, hx⟩ : ∃ x, l.getD k i0 = x := ⟨_, rfl⟩
      obtain ⟨bl, off, ha, hbl, ⟨k0, k1, -⟩, hxr⟩ := HV.out.elem HU.out k (by rw [HN.out]; exact hlt) HN.out (by rw [HN.out]) hx
      subst ha
      have hb1 : bl < wr.heap.size := Nat.lt_of_lt_of_le hbl HU.out.size
      rw [drop_ins HN.out hlt hx, tgtL_cons] at hf
      clear hbl hx hxr
      obtain ⟨op, A, rx⟩ := x
      dsimp only at k0 k1 hf
      have HF := Lib.hid hf
      clear hf
      obtain ⟨jj, hj⟩ : ∃ jj, jumpsB op = jj := ⟨_, rfl⟩
      have HJ := Lib.hid hj
      rw [hj] at HF
      clear hj
      cases jj
      · have HG : Hid (rT ys (tgtL (l.drop (k + 1))) = r) := Lib.hid (by have := HF.out; simpa using this)
        go_wp2_with (go_at_call 29; refine (r47_Jumps _ _ HJ.out _).mono ?_; rintro e' x' ⟨rfl, hx'⟩; rw [hx']; clear hx' x')
        go_roundw
        case rel => exact ⟨k + 1, ys, by omega, by go_num, by rw [HYL.out]; omega, by rw [HYL.out]; exact HOWN.out, HG.out, HU.out⟩
        case measure => simp [intOf]; omega
      · have HG : Hid (rT (insT A ys) (tgtL (l.drop (k + 1))) = r) := Lib.hid (by have := HF.out; rw [if_pos rfl] at this; exact this)
        clear HF
        go_wp2_with (go_at_call 29; refine (r47_Jumps _ _ HJ.out _).mono ?_; rintro e' x' ⟨rfl, hx'⟩; rw [hx']; clear hx' x')
        go_loopw [5] (fun jv wr2 => ∃ j : Nat, j ≤ m ∧ jv = .int .i64 j ∧ posG A ys = j + posG A (ys.drop j) ∧ Up wr wr2) (fun jv _ => m - (intOf jv).toNat)
        case atStart => exact ⟨0, by omega, rfl, by rw [List.drop_zero]; omega, Up.refl _⟩
        case round =>
          rename World => q
          obtain ⟨j, hjm, rfl, hpos, hQ⟩ := hrel
          have HQ := Lib.hid hQ
          clear hQ
          have k0 := cell_up HQ.out k0
          have k1 := cell_up HQ.out k1
          have hb2 : bl < q.heap.size := Nat.lt_of_lt_of_le hb1 HQ.out.size
          by_cases hjl : j < m
          · have hjlI : (j : Int) < m := by omega
            obtain ⟨y, hy⟩ : ∃ y, ys.getD j 0 = y := ⟨_, rfl⟩
            obtain ⟨yg, yo, hya, hyl, hyc⟩ := intsAt_get (HIY.out.up' HQ.out) rfl j hjl
            rw [hy] at hyc
            subst hya
            have hdr : ys.drop j = y :: ys.drop (j + 1) := by
              rw [List.drop_eq_getElem_cons (by rw [HYL.out]; exact hjl)]
              congr 1
              rw [← hy, List.getD_eq_getElem?_getD, List.getElem?_eq_getElem (by rw [HYL.out]; exact hjl)]; rfl
            by_cases hya : y < A
            · have HP : Hid (posG A ys = (j + 1) + posG A (ys.drop (j + 1))) := Lib.hid (by rw [hpos, hdr, posG, if_pos hya]; omega)
              clear hpos hdr
              go_upto_region 7 with fail
              refine wp_region_ext (by kernel_rfl) (by kernel_rfl) ?_
              repeat (go_big_quiet_step (fail))
              refine wpQuiet_nil ?_
              intro p hp
              go_wp2
              go_roundw
              case rel => exact ⟨j + 1, by omega, by go_num, HP.out, HQ.out.trans hp⟩
              case measure => simp [intOf]; omega
            · have HP : Hid (posG A ys = j) := Lib.hid (by rw [hpos, hdr, posG, if_neg hya]; omega)
              have HYY := Lib.hid hy
              clear hpos hdr hy
              go_upto_region 7 with fail
              refine wp_region_ext (by kernel_rfl) (by kernel_rfl) ?_
              repeat (go_big_quiet_step (fail))
              refine wpQuiet_nil ?_
              intro q1 hp
              replace HQ := Lib.hid (HQ.out.trans hp)
              replace k0 := cell_up hp k0
              replace k1 := cell_up hp k1
              replace hb2 := Nat.lt_of_lt_of_le hb2 hp.size
              replace hyc := cell_up hp hyc
              replace hyl := Nat.lt_of_lt_of_le hyl hp.size
              clear hp
              go_wp2
              by_cases heq : y = A
              · have HIN : Hid (insT A ys = ys) := Lib.hid (by unfold insT; rw [HP.out, if_pos ⟨by rw [HYL.out]; exact hjl, by rw [HYY.out]; exact heq⟩])
                have he : (y == A) = true := by rw [beq_iff_eq]; exact heq
                have heq := Lib.hid heq
                clear hya
                refine wp_region_ext (by kernel_rfl) (by kernel_rfl) ?_
                repeat (go_big_quiet_step (fail))
                refine wpQuiet_nil ?_
                intro p hp
                go_wp2
                go_roundw
                case rel => exact ⟨k + 1, ys, by omega, by go_num, by rw [HYL.out]; omega, by rw [HYL.out]; exact own_up' HOWN.out (HQ.out.trans hp), by rw [← HIN.out]; exact HG.out, HU.out.trans (HQ.out.trans hp)⟩
                case measure => simp [intOf]; omega
              · have HIN : Hid (insT A ys = (ys.take j ++ [A]) ++ ys.drop j) := Lib.hid (by unfold insT; rw [HP.out, if_neg (fun h => heq (by rw [← HYY.out]; exact h.2))])
                have he : (y == A) = false := by rw [beq_eq_false_iff_ne]; exact heq
                refine wp_region_ext (by kernel_rfl) (by kernel_rfl) ?_
                repeat (go_big_quiet_step (fail))
                refine wpQuiet_nil ?_
                intro q hp
                replace HQ := Lib.hid (HQ.out.trans hp)
                replace k1 := cell_up hp k1
                replace hb2 := Nat.lt_of_lt_of_le hb2 hp.size
                clear hp k0 hyc hyl
                have HM : Hid (IntsAt q (.slice (some (⟨yg, yo, none⟩ : Addr)) m vc) ys) := Lib.hid (HIY.out.up' HQ.out)
                have HLT : Hid ((ys.take j).length = j) := Lib.hid (by rw [List.length_take, HYL.out]; omega)
                have HLD : Hid ((ys.drop j).length = m - j) := Lib.hid (by rw [List.length_drop, HYL.out])
                have HH := Lib.hid (HM.out.head HYL.out j hjm)
                have HTT := Lib.hid (HM.out.tail HYL.out HCP.out j hjm)
                have hvj : ¬ vc = j := by have := HCP.out; omega
                rw [if_neg hvj, Option.map_some, add_lit_ne] at HTT
                have HSU : Hid (j + 1 + (m - j) = m + 1) := Lib.hid (by omega)
                have hjmI : (j : Int) ≤ m := by omega
                have hmcI : (m : Int) ≤ vc := by have := HCP.out; omega
                go_wp2_with (first
                  | (at_builtin; refine wpList_append_sl _ rfl _ _ 45 rfl q.heap.size 3 ii _ 1 8 Tryz.underlying45 hii iz0 iz1 iz2 rfl (by decide) (.slice a2 (j + 1) c2) (j + 1) _ rfl O2.out (.slice (some (⟨yg, yo + j, none⟩ : Addr)) (m - j) (vc - j)) (m - j) (fun i _ => .int .i64 ((ys.drop j).getD i 0)) rfl (HTT.out.up HX2.out) (fun i j _ _ => rfl) (by rw [maxLen]; omega) (by omega) HX2.out.size ?_; rintro v3 w3 ho3 hg3 - -; rw [int_app _ _ HLD.out, HSU.out] at ho3; obtain ⟨a3, c3, rfl⟩ := own_slice ho3; have O3 := Lib.hid ho3; have HX3 := Lib.hid (HX2.out.grown hg3 fun g hg => own_base O2.out g hg); clear ho3 hg3)
                  | (at_builtin; refine wpList_append_sl _ rfl _ _ 45 rfl q.heap.size 3 ii _ 1 8 Tryz.underlying45 hii iz0 iz1 iz2 rfl (by decide) (.slice a1 j c1) j _ rfl (own_up' O1.out ((Up.refl _).alloc _)) (.slice (some ⟨w1.heap.size, 0, none⟩) 1 1) 1 _ rfl (IntsAt.one' w1 3 A rfl) (fun i j _ _ => rfl) (by rw [maxLen]; omega) (by omega) (HX1.out.alloc _).size ?_; rintro v2 w2 ho2 hg2 - -; rw [int_snoc] at ho2; obtain ⟨a2, c2, rfl⟩ := own_slice ho2; have O2 := Lib.hid ho2; have HX2 := Lib.hid ((HX1.out.alloc _).grown hg2 fun g hg => own_base O1.out g hg); clear ho2 hg2)
                  | (at_builtin; refine wpList_append_sl _ rfl _ _ 45 rfl q.heap.size 3 ii _ 1 8 Tryz.underlying45 hii iz0 iz1 iz2 rfl (by decide) (.slice none 0 0) 0 [] rfl (World.ownsRow_nil _ _ _ _) (.slice (some (⟨yg, yo, none⟩ : Addr)) j vc) j (fun i _ => .int .i64 ((ys.take j).getD i 0)) rfl HH.out (fun i j _ _ => rfl) (by rw [maxLen]; omega) (by omega) (Nat.le_refl _) ?_; rintro v1 w1 ho1 hg1 - -; rw [Nat.zero_add, int_nil _ HLT.out] at ho1; obtain ⟨a1, c1, rfl⟩ := own_slice ho1; have O1 := Lib.hid ho1; have HX1 := Lib.hid (grown_up hg1 (fun k hk => by cases hk)); have hx1 : w1.cell? ⟨bl, off + k * 11 + 1, none⟩ = some (.int .i64 A) := cell_up HX1.out k1; clear ho1 hg1))
                go_roundw
                case rel => exact ⟨k + 1, (ys.take j ++ [A]) ++ ys.drop j, by omega, by go_num, by rw [List.length_append, List.length_append, HLT.out, HLD.out]; simp; try omega, by
                  rw [show ((ys.take j ++ [A]) ++ ys.drop j).length = m + 1 by rw [List.length_append, List.length_append, HLT.out, HLD.out]; simp; try omega]
                  exact own_from O3.out B (by rw [← HB.out]; exact (HU.out.trans HQ.out).size), by rw [← HIN.out]; exact HG.out, (HU.out.trans HQ.out).trans HX3.out⟩
                case measure => simp [intOf]; omega
          · have hjl2 : ¬ (j : Int) < m := by omega
            obtain rfl : j = m := by omega
            have HP : Hid (posG A ys = j) := Lib.hid (by rw [hpos, List.drop_eq_nil_of_le (by rw [HYL.out]; omega)]; rfl)
            have HIN : Hid (insT A ys = (ys.take j ++ [A]) ++ ys.drop j) := Lib.hid (by unfold insT; rw [HP.out, if_neg (fun h => by have := h.1; rw [HYL.out] at this; omega)])
            clear hpos
            go_upto_region 7 with fail
            refine wp_region_ext (by kernel_rfl) (by kernel_rfl) ?_
            repeat (go_big_quiet_step (fail))
            refine wpQuiet_nil ?_
            intro q1 hp
            replace HQ := Lib.hid (HQ.out.trans hp)
            replace k0 := cell_up hp k0
            replace k1 := cell_up hp k1
            replace hb2 := Nat.lt_of_lt_of_le hb2 hp.size
            clear hp
            go_wp2
            refine wp_region_ext (by kernel_rfl) (by kernel_rfl) ?_
            repeat (go_big_quiet_step (fail))
            refine wpQuiet_nil ?_
            intro q hp
            replace HQ := Lib.hid (HQ.out.trans hp)
            replace k1 := cell_up hp k1
            replace hb2 := Nat.lt_of_lt_of_le hb2 hp.size
            clear hp k0
            have HLZ : Hid ((ys.drop j).length = 0) := Lib.hid (by rw [List.length_drop, HYL.out]; omega)
            by_cases hvj : vc = j
            · have hvj2 := hvj.symm
              clear hvj
              subst hvj2
              have HM : Hid (IntsAt q (.slice va j j) ys) := Lib.hid (HIY.out.up' HQ.out)
              have HLT : Hid ((ys.take j).length = j) := Lib.hid (by rw [List.length_take, HYL.out]; omega)
              have HLD : Hid ((ys.drop j).length = j - j) := Lib.hid (by rw [List.length_drop, HYL.out])
              have HH := Lib.hid (HM.out.head HYL.out j hjm)
              have HTT := Lib.hid (HM.out.tail HYL.out HCP.out j hjm)
              have HSU : Hid (j + 1 + (j - j) = j + 1) := Lib.hid (by omega)
              have hjmI : (j : Int) ≤ j := by omega
              
              go_wp2_with (first
                | (at_builtin; refine wpList_append_sl _ rfl _ _ 45 rfl q.heap.size 3 ii _ 1 8 Tryz.underlying45 hii iz0 iz1 iz2 rfl (by decide) (.slice a2 (j + 1) c2) (j + 1) _ rfl O2.out _ 0 (fun i _ => .int .i64 ((ys.drop j).getD i 0)) rfl (SlAt.none _ _ _) (fun i j _ _ => rfl) (by rw [maxLen]; omega) (by omega) HX2.out.size ?_; rintro v3 w3 ho3 hg3 - -; rw [int_app _ _ HLZ.out, Nat.add_zero] at ho3; obtain ⟨a3, c3, rfl⟩ := own_slice ho3; have O3 := Lib.hid ho3; have HX3 := Lib.hid (HX2.out.grown hg3 fun g hg => own_base O2.out g hg); clear ho3 hg3)
                | (at_builtin; refine wpList_append_sl _ rfl _ _ 45 rfl q.heap.size 3 ii _ 1 8 Tryz.underlying45 hii iz0 iz1 iz2 rfl (by decide) (.slice a1 j c1) j _ rfl (own_up' O1.out ((Up.refl _).alloc _)) (.slice (some ⟨w1.heap.size, 0, none⟩) 1 1) 1 _ rfl (IntsAt.one' w1 3 A rfl) (fun i j _ _ => rfl) (by rw [maxLen]; omega) (by omega) (HX1.out.alloc _).size ?_; rintro v2 w2 ho2 hg2 - -; rw [int_snoc] at ho2; obtain ⟨a2, c2, rfl⟩ := own_slice ho2; have O2 := Lib.hid ho2; have HX2 := Lib.hid ((HX1.out.alloc _).grown hg2 fun g hg => own_base O1.out g hg); clear ho2 hg2)
                | (at_builtin; refine wpList_append_sl _ rfl _ _ 45 rfl q.heap.size 3 ii _ 1 8 Tryz.underlying45 hii iz0 iz1 iz2 rfl (by decide) (.slice none 0 0) 0 [] rfl (World.ownsRow_nil _ _ _ _) (.slice va j j) j (fun i _ => .int .i64 ((ys.take j).getD i 0)) rfl HH.out (fun i j _ _ => rfl) (by rw [maxLen]; omega) (by omega) (Nat.le_refl _) ?_; rintro v1 w1 ho1 hg1 - -; rw [Nat.zero_add, int_nil _ HLT.out] at ho1; obtain ⟨a1, c1, rfl⟩ := own_slice ho1; have O1 := Lib.hid ho1; have HX1 := Lib.hid (grown_up hg1 (fun k hk => by cases hk)); have hx1 : w1.cell? ⟨bl, off + k * 11 + 1, none⟩ = some (.int .i64 A) := cell_up HX1.out k1; clear ho1 hg1))
              go_roundw
              case rel => exact ⟨k + 1, (ys.take j ++ [A]) ++ ys.drop j, by omega, by go_num, by rw [List.length_append, List.length_append, HLT.out, HLD.out]; simp; try omega, by
                rw [show ((ys.take j ++ [A]) ++ ys.drop j).length = j + 1 by rw [List.length_append, List.length_append, HLT.out, HLD.out]; simp; try omega]
                exact own_from O3.out B (by rw [← HB.out]; exact (HU.out.trans HQ.out).size), by rw [← HIN.out]; exact HG.out, (HU.out.trans HQ.out).trans HX3.out⟩
              case measure => simp [intOf]; omega
            · have hvj2 : (vc == j) = false := by rw [beq_eq_false_iff_ne]; exact hvj
              have HM : Hid (IntsAt q (.slice va j vc) ys) := Lib.hid (HIY.out.up' HQ.out)
              have HLT : Hid ((ys.take j).length = j) := Lib.hid (by rw [List.length_take, HYL.out]; omega)
              have HLD : Hid ((ys.drop j).length = j - j) := Lib.hid (by rw [List.length_drop, HYL.out])
              have HH := Lib.hid (HM.out.head HYL.out j hjm)
              have HTT := Lib.hid (HM.out.tail HYL.out HCP.out j hjm)
              have HSU : Hid (j + 1 + (j - j) = j + 1) := Lib.hid (by omega)
              have hjmI : (j : Int) ≤ j := by omega
              have hmcI : (j : Int) ≤ vc := by have := HCP.out; omega
              go_wp2_with (first
                | (at_builtin; refine wpList_append_sl _ rfl _ _ 45 rfl q.heap.size 3 ii _ 1 8 Tryz.underlying45 hii iz0 iz1 iz2 rfl (by decide) (.slice a2 (j + 1) c2) (j + 1) _ rfl O2.out _ 0 (fun i _ => .int .i64 ((ys.drop j).getD i 0)) rfl (SlAt.none _ _ _) (fun i j _ _ => rfl) (by rw [maxLen]; omega) (by omega) HX2.out.size ?_; rintro v3 w3 ho3 hg3 - -; rw [int_app _ _ HLZ.out, Nat.add_zero] at ho3; obtain ⟨a3, c3, rfl⟩ := own_slice ho3; have O3 := Lib.hid ho3; have HX3 := Lib.hid (HX2.out.grown hg3 fun g hg => own_base O2.out g hg); clear ho3 hg3)
                | (at_builtin; refine wpList_append_sl _ rfl _ _ 45 rfl q.heap.size 3 ii _ 1 8 Tryz.underlying45 hii iz0 iz1 iz2 rfl (by decide) (.slice a1 j c1) j _ rfl (own_up' O1.out ((Up.refl _).alloc _)) (.slice (some ⟨w1.heap.size, 0, none⟩) 1 1) 1 _ rfl (IntsAt.one' w1 3 A rfl) (fun i j _ _ => rfl) (by rw [maxLen]; omega) (by omega) (HX1.out.alloc _).size ?_; rintro v2 w2 ho2 hg2 - -; rw [int_snoc] at ho2; obtain ⟨a2, c2, rfl⟩ := own_slice ho2; have O2 := Lib.hid ho2; have HX2 := Lib.hid ((HX1.out.alloc _).grown hg2 fun g hg => own_base O1.out g hg); clear ho2 hg2)
                | (at_builtin; refine wpList_append_sl _ rfl _ _ 45 rfl q.heap.size 3 ii _ 1 8 Tryz.underlying45 hii iz0 iz1 iz2 rfl (by decide) (.slice none 0 0) 0 [] rfl (World.ownsRow_nil _ _ _ _) (.slice va j vc) j (fun i _ => .int .i64 ((ys.take j).getD i 0)) rfl HH.out (fun i j _ _ => rfl) (by rw [maxLen]; omega) (by omega) (Nat.le_refl _) ?_; rintro v1 w1 ho1 hg1 - -; rw [Nat.zero_add, int_nil _ HLT.out] at ho1; obtain ⟨a1, c1, rfl⟩ := own_slice ho1; have O1 := Lib.hid ho1; have HX1 := Lib.hid (grown_up hg1 (fun k hk => by cases hk)); have hx1 : w1.cell? ⟨bl, off + k * 11 + 1, none⟩ = some (.int .i64 A) := cell_up HX1.out k1; clear ho1 hg1))
              go_roundw
              case rel => exact ⟨k + 1, (ys.take j ++ [A]) ++ ys.drop j, by omega, by go_num, by rw [List.length_append, List.length_append, HLT.out, HLD.out]; simp; try omega, by
                rw [show ((ys.take j ++ [A]) ++ ys.drop j).length = j + 1 by rw [List.length_append, List.length_append, HLT.out, HLD.out]; simp; try omega]
                exact own_from O3.out B (by rw [← HB.out]; exact (HU.out.trans HQ.out).size), by rw [← HIN.out]; exact HG.out, (HU.out.trans HQ.out).trans HX3.out⟩
              case measure => simp [intOf]; omega
    · obtain rfl : k = n := by omega
      have HG : Hid (r = ys) := Lib.hid (by rw [← hf, List.drop_eq_nil_of_le (by rw [HN.out]; omega)]; rfl)
      clear hf
      go_wp2
      go_ret
      exact ret_v ⟨HU.out, HG.out ▸ HIY.out⟩
end Go.Proofs.YtlglfdhiopnglaaGreatDoor
