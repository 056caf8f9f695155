/-
  PeepholeOptimizes: the walk of the law.
-/
import Derived.Test.YtbpojmhgifgfdaaDoorPeEx
import Derived.Test.YtbpojmhgifgfdaaDoorPeOi
import Derived.Test.YtbpojmhgifgfdaaDoorPeTm
namespace Go.Proofs.YtbpojmhgifgfdaaDoor.peepholeOptimizes
open Go.ChangeShapes Go.WideShapes Go.ChangeAt Go.RowKit
set_option linter.unusedVariables false
set_option linter.unusedSimpArgs false
set_option maxRecDepth 100000

theorem opt_len {ts : List Typ} {words : Int} {r : List Ins} : ∀ (k : Nat) {l : List Ins}, OptTo ts words k l r → r.length ≤ l.length
  | 0, l, h => by rw [h.2]; exact Nat.le_refl _
  | k + 1, l, h => by
    obtain ⟨l', h1, h2⟩ := h
    exact Nat.le_trans (opt_len k h2) (stepF_len h1)

set_option maxHeartbeats 16000000 in
theorem walk (W : World) {v : Value} {u : List Ins × List Typ × List Slt × Int} (w0 : UnArg W v u) (hT : ITab W) :
    Calls Tryd.prog 5 #[v] W fun e w' => e = .returned (.bool true) ∧ Up W w' := by
  obtain ⟨l, lt, ls, words⟩ := u
  obtain ⟨cv, tv, sv, rfl, hc, ht, hs⟩ := w0
  dsimp only at hc ht hs ⊢
  have HT := Lib.hid hT
  have HC := Lib.hid hc
  have HTY := Lib.hid ht
  have HS := Lib.hid hs
  obtain ⟨sm, hsm⟩ : ∃ r, (decide ((l.length : Int) ≤ 200) && (decide ((lt.length : Int) ≤ 300) && decide ((ls.length : Int) ≤ 300))) = r := ⟨_, rfl⟩
  have HSM := Lib.hid (fun w' (h : Up W w') => law_small cv tv sv words 200 l lt ls w' (hc.up h) (ht.up h) (hs.up h) sm hsm)
  have HLN : Hid (sm = true → l.length ≤ 200 ∧ lt.length ≤ 300 ∧ ls.length ≤ 300) := Lib.hid (fun h => by rw [h] at hsm; simp at hsm; omega)
  obtain ⟨⟨ca, cc, rfl⟩, cm⟩ := hc.slice
  obtain ⟨⟨ta, tc, rfl⟩, tm⟩ := ht.slice
  obtain ⟨⟨sa, sc, rfl⟩, sm0⟩ := hs.slice
  obtain ⟨n, hn⟩ : ∃ n, l.length = n := ⟨_, rfl⟩
  obtain ⟨m, hm⟩ : ∃ m, lt.length = m := ⟨_, rfl⟩
  obtain ⟨k, hk⟩ : ∃ k, ls.length = k := ⟨_, rfl⟩
  rw [hn] at HC cm
  rw [hm] at HTY tm
  rw [hk] at HS sm0
  rw [hn, hm, hk] at HSM HLN ⊢
  have HN := Lib.hid hn
  have HM := Lib.hid hm
  have HK := Lib.hid hk
  clear hn hm hk hc ht hs hT hsm
  have HU1 : Hid (Up W (W.alloc (.cells #[.slice ca n cc, .slice ta m tc, .slice sa k sc, .int .i64 words] 31))) := Lib.hid ((Up.refl W).alloc _)
  have HB1 : Hid (UBox (W.alloc (.cells #[.slice ca n cc, .slice ta m tc, .slice sa k sc, .int .i64 words] 31)) W.heap.size 31 (.slice ca n cc) (.slice ta m tc) (.slice sa k sc) (.int .i64 words)) := Lib.hid (UBox.new W _ _ _ _ _)
  have SMC : True := trivial
  cases sm
  · go_enter Tryd.func5, Tryd.ntmps5
    go_wp2_with (first | (go_at_call 12; refine (HSM.out _ HU1.out).mono ?_; rintro e z ⟨rfl, hz⟩; have HU := Lib.hid (HU1.out.trans hz); clear hz) | (go_at_call 8; refine (law_examples _ (HT.out.up HU.out)).mono ?_; rintro e ze ⟨rfl, hze⟩))
    go_ret
    exact ⟨rfl, HU.out.trans hze⟩
  · obtain ⟨h1, h2, h3⟩ := HLN.out rfl
    have L1 : Hid (l.length ≤ 100000) := Lib.hid (by rw [HN.out]; omega)
    have L2 : Hid (lt.length ≤ 100000) := Lib.hid (by rw [HM.out]; omega)
    have L3 : Hid (ls.length ≤ 100000) := Lib.hid (by rw [HK.out]; omega)
    obtain ⟨kk, q, hkk, hO⟩ := opt_ex lt words (muF l) l (Nat.le_refl _)
    have hmu := mu_le l (by rw [HN.out]; omega)
    have LQ : Hid (q.length ≤ 100000) := Lib.hid (Nat.le_trans (opt_len kk hO) L1.out)
    have hk9 : kk ≤ 1000000000 := by omega
    have HST : Hid (∀ z, Up W z → Calls Tryd.prog 16 #[.agg #[.slice ca n cc, .slice ta m tc, .slice sa k sc, .int .i64 words]] z fun e w' => ∃ c' t' s', e = .returned (.tuple #[.agg #[c', t', s', .int .i64 words], .int .i64 kk]) ∧ Up z w' ∧ InsAt w' c' q ∧ TypAt w' t' lt ∧ SltAt w' s' ls) := Lib.hid (fun z hz => by
      refine (pe_Optimize _ _ _ words l lt ls z (HT.out.up hz) (HC.out.up hz) (HTY.out.up hz) (HS.out.up hz) L1.out L2.out L3.out kk q hO hk9).mono ?_
      rintro e w' ⟨c', t', s', rfl, g1, g2, g3, g4⟩
      exact ⟨c', t', s', rfl, g1, g2, g3, g4⟩)
    have HSR : Hid (∀ z, Up W z → Calls Tryd.prog 17 #[.agg #[.slice ca n cc, .slice ta m tc, .slice sa k sc, .int .i64 words]] z fun e w' => ∃ c', e = .returned (.tuple #[.agg #[c', .slice ta m tc, .slice sa k sc, .int .i64 words], .int .i64 kk]) ∧ Up z w' ∧ InsAt w' c' q) := Lib.hid (fun z hz =>
      r50_Optimize _ _ _ words l lt ls z (HC.out.up hz) (HTY.out.up hz) (HS.out.up hz) L1.out L2.out kk q hO hk9)
    clear hO hkk hmu
    go_enter Tryd.func5, Tryd.ntmps5
    go_wp2_with (first
      | (go_at_call 12; refine (HSM.out _ HU1.out).mono ?_; rintro e z ⟨rfl, hz⟩; have HU := Lib.hid (HU1.out.trans hz); have HB := Lib.hid (HB1.out.up hz); clear hz; obtain ⟨b0, b1, b2, b3⟩ := HB.out.all; have hlb := UBox.lt HB.out)
      | (go_at_call 16; refine (HST.out _ HU.out).mono ?_; rintro e z2 ⟨c2, t2, s2, rfl, hz2, hc2, ht2, hs2⟩; obtain ⟨⟨c2a, c2c, rfl⟩, -⟩ := hc2.slice; obtain ⟨⟨t2a, t2c, rfl⟩, -⟩ := ht2.slice; obtain ⟨⟨s2a, s2c, rfl⟩, -⟩ := hs2.slice; have HA2 := Lib.hid ((Up.refl z2).alloc (.cells #[.slice c2a q.length c2c, .slice t2a lt.length t2c, .slice s2a ls.length s2c, .int .i64 words] 33)); have HB2 := Lib.hid (HB.out.up hz2); have HK2 := Lib.hid (UBox.new z2 33 (.slice c2a q.length c2c) (.slice t2a lt.length t2c) (.slice s2a ls.length s2c) (.int .i64 words)); have HC2 := Lib.hid (hc2.up HA2.out); have HT2 := Lib.hid (ht2.up HA2.out); have HS2 := Lib.hid (hs2.up HA2.out); replace HU := Lib.hid ((HU.out.trans hz2).trans HA2.out); clear hz2 hc2 ht2 hs2 b0 b1 b2 b3 hlb HB; obtain ⟨b0, b1, b2, b3⟩ := HB2.out.all; have hlb := UBox.lt HB2.out)
      | (go_at_call 17; refine (HSR.out _ HU.out).mono ?_; rintro e z3 ⟨c3, rfl, hz3, hc3⟩; obtain ⟨⟨c3a, c3c, rfl⟩, -⟩ := hc3.slice; have HA3 := Lib.hid ((Up.refl z3).alloc (.cells #[.slice c3a q.length c3c, .slice ta m tc, .slice sa k sc, .int .i64 words] 31)); have HK3 := Lib.hid (HK2.out.up hz3); have HL3 := Lib.hid (UBox.new z3 31 (.slice c3a q.length c3c) (.slice ta m tc) (.slice sa k sc) (.int .i64 words)); have HC3 := Lib.hid (hc3.up HA3.out); replace HC2 := Lib.hid ((HC2.out.up hz3).up HA3.out); replace HT2 := Lib.hid ((HT2.out.up hz3).up HA3.out); replace HS2 := Lib.hid ((HS2.out.up hz3).up HA3.out); replace HU := Lib.hid ((HU.out.trans hz3).trans HA3.out); clear hz3 hc3 b0 b1 b2 b3; obtain ⟨k0, k1, k2, k3⟩ := HK3.out.all; have hlk := UBox.lt HK3.out)
      | (go_at_call 15; refine (law_same _ _ _ _ _ _ words q lt ls _ HC3.out HC2.out (HTY.out.up HU.out) HT2.out (HS.out.up HU.out) HS2.out LQ.out L2.out L3.out).mono ?_; rintro e z4 ⟨rfl, hz4⟩; replace HU := Lib.hid (HU.out.trans hz4); clear hz4)
      | (go_at_call 8; refine (law_examples _ (HT.out.up HU.out)).mono ?_; rintro e ze ⟨rfl, hze⟩))
    go_ret
    exact ⟨rfl, HU.out.trans hze⟩
end Go.Proofs.YtbpojmhgifgfdaaDoor.peepholeOptimizes
