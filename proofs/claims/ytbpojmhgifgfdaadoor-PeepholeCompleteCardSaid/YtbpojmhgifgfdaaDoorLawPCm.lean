/-
  PeepholeComplete: the walk of the law.
-/
import Derived.Test.YtbpojmhgifgfdaaDoorPeEx
import Derived.Test.YtbpojmhgifgfdaaDoorPeOi
import Derived.Test.YtbpojmhgifgfdaaDoorPeCm
namespace Go.Proofs.YtbpojmhgifgfdaaDoor.peepholeComplete
open Go.ChangeShapes Go.WideShapes Go.ChangeAt Go.RowKit
set_option linter.unusedVariables false
set_option linter.unusedSimpArgs false
set_option maxRecDepth 100000

set_option maxHeartbeats 16000000 in
theorem walk (W : World) {v : Value} {u : List Ins × List Typ × List Slt × Int} (w0 : UnArg W v u) (hT : ITab W) :
    Calls Tryd.prog 6 #[v] W fun e w' => e = .returned (.bool true) ∧ Up W w' := by
  obtain ⟨l, lt, ls, words⟩ := u
  obtain ⟨cv, tv, sv, rfl, hc, ht, hs⟩ := w0
  dsimp only at hc ht hs ⊢
  have HT := Lib.hid hT
  have HC := Lib.hid hc
  have HTY := Lib.hid ht
  have HS := Lib.hid hs
  obtain ⟨sm, hsm⟩ : ∃ r, (decide ((l.length : Int) ≤ 200) && (decide ((lt.length : Int) ≤ 300) && decide ((ls.length : Int) ≤ 300))) = r := ⟨_, rfl⟩
  have HSM := Lib.hid (fun w' (h : Up W w') => law_small cv tv sv words 200 l lt ls w' (hc.up h) (ht.up h) (hs.up h) sm hsm)
  have HLN : Hid (sm = true → l.length ≤ 200 ∧ lt.length ≤ 300 ∧ ls.length ≤ 300) := Lib.hid (fun h => by rw [h] at hsm; simp at hsm; omega)
  obtain ⟨⟨ca, cc, rfl⟩, cm⟩ := hc.slice
  obtain ⟨⟨ta, tc, rfl⟩, tm⟩ := ht.slice
  obtain ⟨⟨sa, sc, rfl⟩, sm0⟩ := hs.slice
  obtain ⟨n, hn⟩ : ∃ n, l.length = n := ⟨_, rfl⟩
  obtain ⟨m, hm⟩ : ∃ m, lt.length = m := ⟨_, rfl⟩
  obtain ⟨k, hk⟩ : ∃ k, ls.length = k := ⟨_, rfl⟩
  rw [hn] at HC cm
  rw [hm] at HTY tm
  rw [hk] at HS sm0
  rw [hn, hm, hk] at HSM HLN ⊢
  have HN := Lib.hid hn
  have HM := Lib.hid hm
  have HK := Lib.hid hk
  clear hn hm hk hc ht hs hT hsm
  have HU1 : Hid (Up W (W.alloc (.cells #[.slice ca n cc, .slice ta m tc, .slice sa k sc, .int .i64 words] 31))) := Lib.hid ((Up.refl W).alloc _)
  have HB1 : Hid (UBox (W.alloc (.cells #[.slice ca n cc, .slice ta m tc, .slice sa k sc, .int .i64 words] 31)) W.heap.size 31 (.slice ca n cc) (.slice ta m tc) (.slice sa k sc) (.int .i64 words)) := Lib.hid (UBox.new W _ _ _ _ _)
  have SMC : True := trivial
  cases sm
  · go_enter Tryd.func6, Tryd.ntmps6
    go_wp2_with (first | (go_at_call 12; refine (HSM.out _ HU1.out).mono ?_; rintro e z ⟨rfl, hz⟩; have HU := Lib.hid (HU1.out.trans hz); clear hz) | (go_at_call 8; refine (law_examples _ (HT.out.up HU.out)).mono ?_; rintro e ze ⟨rfl, hze⟩))
    go_ret
    exact ⟨rfl, HU.out.trans hze⟩
  · obtain ⟨h1, h2, h3⟩ := HLN.out rfl
    have L1 : Hid (l.length ≤ 100000) := Lib.hid (by rw [HN.out]; omega)
    have L2 : Hid (lt.length ≤ 100000) := Lib.hid (by rw [HM.out]; omega)
    have L3 : Hid (ls.length ≤ 100000) := Lib.hid (by rw [HK.out]; omega)
    obtain ⟨⟨vi, ve⟩, hv⟩ : ∃ v, validateF l lt words = v := ⟨_, rfl⟩
    have HV1 : Hid (∀ z, Up W z → Calls Tryd.prog 18 #[.slice ca n cc, .slice ta m tc, .int .i64 words] z fun e w' => e = .returned (.tuple #[.int .i64 vi, .int .i64 ve]) ∧ Up z w') := Lib.hid (fun z hz => by
      have := r47_Validate _ _ l lt words z (HC.out.up hz) (HTY.out.up hz) L1.out L2.out
      rw [hv] at this; exact this)
    by_cases hve : ve = 0
    · subst hve
      have hvl : ValidB l lt words := (valid_iff l lt words).1 (by rw [hv])
      obtain ⟨kk, q, hkk, hO⟩ := opt_ex lt words (muF l) l (Nat.le_refl _)
      have hmu := mu_le l (by rw [HN.out]; omega)
      have hk9 : kk ≤ 1000000000 := by omega
      obtain ⟨hq1, hq2, hq3, hq4⟩ := complete_of kk hvl hO
      have LQ : Hid (q.length ≤ 100000) := Lib.hid (Nat.le_trans hq4 L1.out)
      have hq5 : q.length ≤ n := by rw [← HN.out]; exact hq4
      have hq6 : (q.length : Int) ≤ n := by omega
      have HST : Hid (∀ z, Up W z → Calls Tryd.prog 16 #[.agg #[.slice ca n cc, .slice ta m tc, .slice sa k sc, .int .i64 words]] z fun e w' => ∃ c' t' s', e = .returned (.tuple #[.agg #[c', t', s', .int .i64 words], .int .i64 kk]) ∧ Up z w' ∧ InsAt w' c' q ∧ TypAt w' t' lt ∧ SltAt w' s' ls) := Lib.hid (fun z hz => by
        refine (pe_Optimize _ _ _ words l lt ls z (HT.out.up hz) (HC.out.up hz) (HTY.out.up hz) (HS.out.up hz) L1.out L2.out L3.out kk q hO hk9).mono ?_
        rintro e w' ⟨c', t', s', rfl, g1, g2, g3, g4⟩
        exact ⟨c', t', s', rfl, g1, g2, g3, g4⟩)

      have HV2 : Hid (∀ z c t, InsAt z c q → TypAt z t lt → Calls Tryd.prog 18 #[c, t, .int .i64 words] z fun e w' => ∃ i, e = .returned (.tuple #[.int .i64 i, .int .i64 0]) ∧ Up z w') := Lib.hid (fun z c t h1 h2 => by
        refine (r47_Validate _ _ q lt words z h1 h2 LQ.out L2.out).mono ?_
        rintro e w' ⟨rfl, g⟩
        exact ⟨_, by rw [(valid_iff q lt words).2 hq1], g⟩)
      have HS2' : Hid (∀ z c t s, Up W z → InsAt z c q → TypAt z t lt → SltAt z s ls → Calls Tryd.prog 13 #[.agg #[c, t, s, .int .i64 words]] z fun e w' => ∃ c' t' s', e = .returned (.tuple #[.agg #[c', t', s', .int .i64 words], .bool false]) ∧ Up z w' ∧ InsAt w' c' q ∧ TypAt w' t' lt ∧ SltAt w' s' ls) := Lib.hid (fun z c t s hz h1 h2 h3 => by
        refine (pe_Step _ _ _ words q lt ls z (HT.out.up hz) h1 h2 h3 LQ.out L2.out L3.out).mono ?_
        rintro e w' ⟨c', t', s', rfl, g1, g2, g3, g4, -⟩
        rw [hq2] at g2 ⊢
        exact ⟨c', t', s', rfl, g1, g2, g3, g4⟩)
      have HUN : Hid (∀ z c, InsAt z c q → Calls Tryd.prog 10 #[c] z fun e w' => ∃ a cap, e = .returned (.slice a 0 cap) ∧ Up z w') := Lib.hid (fun z c h1 => by
        refine (pe_Unreachable _ q z h1 LQ.out).mono ?_
        rintro e w' ⟨v', rfl, g1, g2⟩
        rw [hq3] at g2
        obtain ⟨⟨a, cap, rfl⟩, -⟩ := g2.slice
        exact ⟨a, cap, rfl, g1⟩)
      clear hO hkk hmu hv hvl hq1 hq2 hq3 hq4
      go_enter Tryd.func6, Tryd.ntmps6
      go_wp2_with (first
        | (go_at_call 12; refine (HSM.out _ HU1.out).mono ?_; rintro e z ⟨rfl, hz⟩; have HU := Lib.hid (HU1.out.trans hz); have HB := Lib.hid (HB1.out.up hz); clear hz; obtain ⟨b0, b1, b2, b3⟩ := HB.out.all; have hlb := UBox.lt HB.out)
        | (go_at_call 18; refine (HV2.out _ _ _ HC2.out HT2.out).mono ?_; rintro e z3 ⟨i3, rfl, hz3⟩; replace HU := Lib.hid (HU.out.trans hz3); replace HB := Lib.hid (HB.out.up hz3); replace HK2 := Lib.hid (HK2.out.up hz3); replace HC2 := Lib.hid (HC2.out.up hz3); replace HT2 := Lib.hid (HT2.out.up hz3); replace HS2 := Lib.hid (HS2.out.up hz3); clear hz3; obtain ⟨b0, b1, b2, b3⟩ := HB.out.all; obtain ⟨k0, k1, k2, k3⟩ := HK2.out.all; have hlk := UBox.lt HK2.out; have hlb2 := UBox.lt HB.out)
        | (go_at_call 18; refine (HV1.out _ HU.out).mono ?_; rintro e z1 ⟨rfl, hz1⟩; replace HU := Lib.hid (HU.out.trans hz1); replace HB := Lib.hid (HB.out.up hz1); clear hz1 b0 b1 b2 b3 hlb; obtain ⟨b0, b1, b2, b3⟩ := HB.out.all; have hlb := UBox.lt HB.out)
        | (go_at_call 16; refine (HST.out _ HU.out).mono ?_; rintro e z2 ⟨c2, t2, s2, rfl, hz2, hc2, ht2, hs2⟩; obtain ⟨⟨c2a, c2c, rfl⟩, -⟩ := hc2.slice; obtain ⟨⟨t2a, t2c, rfl⟩, -⟩ := ht2.slice; obtain ⟨⟨s2a, s2c, rfl⟩, -⟩ := hs2.slice; have HA2 := Lib.hid ((Up.refl z2).alloc (.cells #[.slice c2a q.length c2c, .slice t2a lt.length t2c, .slice s2a ls.length s2c, .int .i64 words] 33)); have HB2 := Lib.hid (HB.out.up hz2); have HK2 := Lib.hid (UBox.new z2 33 (.slice c2a q.length c2c) (.slice t2a lt.length t2c) (.slice s2a ls.length s2c) (.int .i64 words)); have HC2 := Lib.hid (hc2.up HA2.out); have HT2 := Lib.hid (ht2.up HA2.out); have HS2 := Lib.hid (hs2.up HA2.out); replace HU := Lib.hid ((HU.out.trans hz2).trans HA2.out); replace HB := Lib.hid (HB2.out.up HA2.out); clear hz2 hc2 ht2 hs2 b0 b1 b2 b3 hlb; have hlb := UBox.lt HB2.out)
        | (go_at_call 13; refine (HS2'.out _ _ _ _ HU.out HC2.out HT2.out HS2.out).mono ?_; rintro e z4 ⟨c4, t4, s4, rfl, hz4, hc4, ht4, hs4⟩; obtain ⟨⟨c4a, c4c, rfl⟩, -⟩ := hc4.slice; obtain ⟨⟨t4a, t4c, rfl⟩, -⟩ := ht4.slice; obtain ⟨⟨s4a, s4c, rfl⟩, -⟩ := hs4.slice; replace HU := Lib.hid (HU.out.trans hz4); replace HB := Lib.hid (HB.out.up hz4); replace HK2 := Lib.hid (HK2.out.up hz4); replace HC2 := Lib.hid (HC2.out.up hz4); replace HT2 := Lib.hid (HT2.out.up hz4); replace HS2 := Lib.hid (HS2.out.up hz4); clear hz4 hc4 ht4 hs4 b0 b1 b2 b3 k0 k1 k2 k3 hlk hlb2; obtain ⟨b0, b1, b2, b3⟩ := HB.out.all; obtain ⟨k0, k1, k2, k3⟩ := HK2.out.all; have hlk := UBox.lt HK2.out; have hlb2 := UBox.lt HB.out; have HA4 := Lib.hid ((Up.refl z4).alloc (.cells #[.slice c4a q.length c4c, .slice t4a lt.length t4c, .slice s4a ls.length s4c, .int .i64 words] 33)); replace HU := Lib.hid (HU.out.trans HA4.out); replace HB := Lib.hid (HB.out.up HA4.out); replace HK2 := Lib.hid (HK2.out.up HA4.out); replace HC2 := Lib.hid (HC2.out.up HA4.out); replace HT2 := Lib.hid (HT2.out.up HA4.out); replace HS2 := Lib.hid (HS2.out.up HA4.out))
        | (go_at_call 10; refine (HUN.out _ _ HC2.out).mono ?_; rintro e z5 ⟨ua, uc, rfl, hz5⟩; replace HU := Lib.hid (HU.out.trans hz5); replace HB := Lib.hid (HB.out.up hz5); replace HK2 := Lib.hid (HK2.out.up hz5); replace HC2 := Lib.hid (HC2.out.up hz5); replace HT2 := Lib.hid (HT2.out.up hz5); replace HS2 := Lib.hid (HS2.out.up hz5); clear hz5 b0 b1 b2 b3 k0 k1 k2 k3 hlk hlb2; obtain ⟨b0, b1, b2, b3⟩ := HB.out.all; obtain ⟨k0, k1, k2, k3⟩ := HK2.out.all; have hlk := UBox.lt HK2.out; have hlb2 := UBox.lt HB.out)
        | (go_at_call 8; refine (law_examples _ (HT.out.up HU.out)).mono ?_; rintro e ze ⟨rfl, hze⟩))
      go_ret
      exact ⟨rfl, HU.out.trans hze⟩
    · have hv1 : (ve != 0) = true := by simpa using hve
      go_enter Tryd.func6, Tryd.ntmps6
      go_wp2_with (first
        | (go_at_call 12; refine (HSM.out _ HU1.out).mono ?_; rintro e z ⟨rfl, hz⟩; have HU := Lib.hid (HU1.out.trans hz); have HB := Lib.hid (HB1.out.up hz); clear hz; obtain ⟨b0, b1, b2, b3⟩ := HB.out.all; have hlb := UBox.lt HB.out)
        | (go_at_call 18; refine (HV1.out _ HU.out).mono ?_; rintro e z1 ⟨rfl, hz1⟩; replace HU := Lib.hid (HU.out.trans hz1); replace HB := Lib.hid (HB.out.up hz1); clear hz1 b0 b1 b2 b3 hlb; obtain ⟨b0, b1, b2, b3⟩ := HB.out.all; have hlb := UBox.lt HB.out)
        | (go_at_call 8; refine (law_examples _ (HT.out.up HU.out)).mono ?_; rintro e ze ⟨rfl, hze⟩))
      go_ret
      exact ⟨rfl, HU.out.trans hze⟩
end Go.Proofs.YtbpojmhgifgfdaaDoor.peepholeComplete
