/-
  PeepholePreserves: the walk of the law. Printed by mkPvLaw.py.
-/
import Derived.Test.YtbpojmhgifgfdaaDoorPeEx
import Derived.Test.YtbpojmhgifgfdaaDoorPeTm
import Derived.Test.YtbpojmhgifgfdaaDoorPvA
import Derived.Test.YtbpojmhgifgfdaaDoorPvAb
namespace Go.Proofs.YtbpojmhgifgfdaaDoor.peepholePreserves
open Go.ChangeShapes Go.WideShapes Go.ChangeAt Go.RowKit
set_option linter.unusedVariables false
set_option linter.unusedSimpArgs false
set_option maxRecDepth 100000

theorem ints_len {v : World} {a : Option Addr} {n c : Nat} {l : List Int} (h : IntsAt v (.slice a n c) l) : l.length = n := by
  obtain ⟨⟨a', c', e⟩, -⟩ := h.slice
  cases e
  rfl
set_option maxHeartbeats 16000000 in
theorem walk (W : World) {v mv : Value} {u : List Ins × List Typ × List Slt × Int} {mem : List (Int × Int)} {fuel : Int} (w0 : UnArg W v u) (w1 : VlArg W mv mem) (w2 : (Lit.int .i64 fuel).wf = true) (hT : ITab W) :
    Calls Tryd.prog 7 #[v, mv, .int .i64 fuel] W fun e w' => e = .returned (.bool true) ∧ Up W w' := by
  obtain ⟨l, lt, ls, words⟩ := u
  obtain ⟨cv, tv, sv, rfl, hc, ht, hs⟩ := w0
  dsimp only at hc ht hs ⊢
  have HT := Lib.hid hT
  have HC := Lib.hid hc
  have HTY := Lib.hid ht
  have HS := Lib.hid hs
  obtain ⟨sm, hsm⟩ : ∃ r, (decide ((l.length : Int) ≤ 200) && (decide ((lt.length : Int) ≤ 300) && decide ((ls.length : Int) ≤ 300))) = r := ⟨_, rfl⟩
  have HSM := Lib.hid (fun w' (h : Up W w') => law_small cv tv sv words 200 l lt ls w' (hc.up h) (ht.up h) (hs.up h) sm hsm)
  have HLN : Hid (sm = true → l.length ≤ 200 ∧ lt.length ≤ 300 ∧ ls.length ≤ 300) := Lib.hid (fun h => by rw [h] at hsm; simp at hsm; omega)
  obtain ⟨⟨ca, cc, rfl⟩, cm⟩ := hc.slice
  obtain ⟨⟨ta, tc, rfl⟩, tm⟩ := ht.slice
  obtain ⟨⟨sa, sc, rfl⟩, sm0⟩ := hs.slice
  obtain ⟨⟨ma, mcp, rfl⟩, mm⟩ := w1.1.slice
  obtain ⟨n, hn⟩ : ∃ n, l.length = n := ⟨_, rfl⟩
  obtain ⟨m, hm⟩ : ∃ m, lt.length = m := ⟨_, rfl⟩
  obtain ⟨k, hk⟩ : ∃ k, ls.length = k := ⟨_, rfl⟩
  obtain ⟨p, hp⟩ : ∃ p, mem.length = p := ⟨_, rfl⟩
  rw [hn] at HC cm
  rw [hm] at HTY tm
  rw [hk] at HS sm0
  have HME := Lib.hid w1.1
  have HMR := Lib.hid w1.2
  rw [hp] at HME mm
  rw [hn, hm, hk] at HSM HLN ⊢
  rw [hp]
  have HN := Lib.hid hn
  have HM := Lib.hid hm
  have HK := Lib.hid hk
  have HP := Lib.hid hp
  clear hn hm hk hp hc ht hs hT hsm w1
  have HU1 : Hid (Up W (W.alloc (.cells #[.slice ca n cc, .slice ta m tc, .slice sa k sc, .int .i64 words] 31))) := Lib.hid ((Up.refl W).alloc _)
  have HB1 : Hid (UBox (W.alloc (.cells #[.slice ca n cc, .slice ta m tc, .slice sa k sc, .int .i64 words] 31)) W.heap.size 31 (.slice ca n cc) (.slice ta m tc) (.slice sa k sc) (.int .i64 words)) := Lib.hid (UBox.new W _ _ _ _ _)
  by_cases hg : sm = false ∨ 2000 < words ∨ fuel < 0 ∨ 3000 < fuel
  · rcases hg with rfl | hg
    · go_enter Tryd.func7, Tryd.ntmps7
      go_wp2_with (first | (go_at_call 12; refine (HSM.out _ HU1.out).mono ?_; rintro e z ⟨rfl, hz⟩; have HU := Lib.hid (HU1.out.trans hz); have HB := Lib.hid (HB1.out.up hz); clear hz; obtain ⟨b0, b1, b2, b3⟩ := HB.out.all; have hlb := UBox.lt HB.out) | (go_at_call 8; refine (law_examples _ (HT.out.up HU.out)).mono ?_; rintro e ze ⟨rfl, hze⟩))
      go_ret
      exact ⟨rfl, HU.out.trans hze⟩
    cases sm
    · go_enter Tryd.func7, Tryd.ntmps7
      go_wp2_with (first | (go_at_call 12; refine (HSM.out _ HU1.out).mono ?_; rintro e z ⟨rfl, hz⟩; have HU := Lib.hid (HU1.out.trans hz); have HB := Lib.hid (HB1.out.up hz); clear hz; obtain ⟨b0, b1, b2, b3⟩ := HB.out.all; have hlb := UBox.lt HB.out) | (go_at_call 8; refine (law_examples _ (HT.out.up HU.out)).mono ?_; rintro e ze ⟨rfl, hze⟩))
      go_ret
      exact ⟨rfl, HU.out.trans hze⟩
    by_cases h1 : 2000 < words
    · go_enter Tryd.func7, Tryd.ntmps7
      go_wp2_with (first | (go_at_call 12; refine (HSM.out _ HU1.out).mono ?_; rintro e z ⟨rfl, hz⟩; have HU := Lib.hid (HU1.out.trans hz); have HB := Lib.hid (HB1.out.up hz); clear hz; obtain ⟨b0, b1, b2, b3⟩ := HB.out.all; have hlb := UBox.lt HB.out) | (go_at_call 8; refine (law_examples _ (HT.out.up HU.out)).mono ?_; rintro e ze ⟨rfl, hze⟩))
      go_ret
      exact ⟨rfl, HU.out.trans hze⟩
    by_cases h2 : fuel < 0
    · go_enter Tryd.func7, Tryd.ntmps7
      go_wp2_with (first | (go_at_call 12; refine (HSM.out _ HU1.out).mono ?_; rintro e z ⟨rfl, hz⟩; have HU := Lib.hid (HU1.out.trans hz); have HB := Lib.hid (HB1.out.up hz); clear hz; obtain ⟨b0, b1, b2, b3⟩ := HB.out.all; have hlb := UBox.lt HB.out) | (go_at_call 8; refine (law_examples _ (HT.out.up HU.out)).mono ?_; rintro e ze ⟨rfl, hze⟩))
      go_ret
      exact ⟨rfl, HU.out.trans hze⟩
    have h3 : 3000 < fuel := by omega
    go_enter Tryd.func7, Tryd.ntmps7
    go_wp2_with (first | (go_at_call 12; refine (HSM.out _ HU1.out).mono ?_; rintro e z ⟨rfl, hz⟩; have HU := Lib.hid (HU1.out.trans hz); have HB := Lib.hid (HB1.out.up hz); clear hz; obtain ⟨b0, b1, b2, b3⟩ := HB.out.all; have hlb := UBox.lt HB.out) | (go_at_call 8; refine (law_examples _ (HT.out.up HU.out)).mono ?_; rintro e ze ⟨rfl, hze⟩))
    go_ret
    exact ⟨rfl, HU.out.trans hze⟩
  obtain rfl : sm = true := by
    cases sm
    · exact absurd (.inl rfl) hg
    · rfl
  have g1 : ¬ 2000 < words := fun h => hg (.inr (.inl h))
  have g2 : ¬ fuel < 0 := fun h => hg (.inr (.inr (.inl h)))
  have g3 : ¬ 3000 < fuel := fun h => hg (.inr (.inr (.inr h)))
  clear hg
  obtain ⟨h1, h2, h3⟩ := HLN.out rfl
  have L1 : Hid (l.length ≤ 100000) := Lib.hid (by rw [HN.out]; omega)
  have L2 : Hid (lt.length ≤ 100000) := Lib.hid (by rw [HM.out]; omega)
  have L3 : Hid (ls.length ≤ 100000) := Lib.hid (by rw [HK.out]; omega)
  obtain ⟨⟨vi, ve⟩, hv⟩ : ∃ v, validateF l lt words = v := ⟨_, rfl⟩
  by_cases hve : ve = 0
  rotate_left
  · have hv1 : (ve != 0) = true := by simpa using hve
    have HN1 : Hid (∀ z, Up W z → Calls Tryd.prog 19 #[.slice ca n cc, .slice ta m tc, .int .i64 words] z fun e w' => e = .returned (.tuple #[.agg #[.slice none 0 0, .slice none 0 0, .int .i64 0, .slice none 0 0, .slice none 0 0, .slice none 0 0, .bool false], .int .i64 ve]) ∧ Up z w') := Lib.hid (fun z hz => r49_New_e _ _ _ _ _ _ l lt words vi ve z (HC.out.up hz) (HTY.out.up hz) L1.out L2.out hv hve)
    clear hv hve
    go_enter Tryd.func7, Tryd.ntmps7
    go_wp2_with (first | (go_at_call 12; refine (HSM.out _ HU1.out).mono ?_; rintro e z ⟨rfl, hz⟩; have HU := Lib.hid (HU1.out.trans hz); have HB := Lib.hid (HB1.out.up hz); clear hz; obtain ⟨b0, b1, b2, b3⟩ := HB.out.all; have hlb := UBox.lt HB.out) | (go_at_call 19; refine (HN1.out _ HU.out).mono ?_; rintro e z1 ⟨rfl, hz1⟩; replace HU := Lib.hid ((HU.out.trans hz1).alloc (.cells #[.slice none 0 0, .slice none 0 0, .int .i64 0, .slice none 0 0, .slice none 0 0, .slice none 0 0, .bool false] 50)); clear hz1) | (go_at_call 8; refine (law_examples _ (HT.out.up HU.out)).mono ?_; rintro e ze ⟨rfl, hze⟩))
    go_ret
    exact ⟨rfl, HU.out.trans hze⟩
  subst hve
  have hvl : ValidB l lt words := (valid_iff l lt words).1 (by rw [hv])
  have hw0 : 0 ≤ words := by
    have := hvl.2.1
    unfold inB at this
    simp only [decide_eq_true_eq] at this
    exact this.1
  obtain ⟨nw, rfl⟩ : ∃ k : Nat, words = k := ⟨words.toNat, by omega⟩
  obtain ⟨fu, rfl⟩ : ∃ k : Nat, fuel = k := ⟨fuel.toNat, by omega⟩
  have hnw : nw ≤ 100000 := by omega
  have HNW := Lib.hid hnw
  have HN1 : Hid (∀ z, Up W z → Calls Tryd.prog 19 #[.slice ca n cc, .slice ta m tc, .int .i64 nw] z fun e w' => ∃ xa xc ra rc ma mc, e = .returned (.tuple #[.agg #[.slice ca n cc, .slice ta m tc, .int .i64 0, .slice xa 256 xc, .slice ra 256 rc, .slice ma nw mc, .bool false], .int .i64 0]) ∧ Up z w' ∧ LS w' (.slice xa 256 xc) (.slice ra 256 rc) (.slice ma nw mc) nw ⟨zeroX, zeroL 256, zeroL nw⟩ ∧ CapOK (.slice ma nw mc)) := Lib.hid (fun z hz => (r49_New _ _ _ _ _ _ l lt nw vi z (HC.out.up hz) (HTY.out.up hz) L1.out L2.out HNW.out hv).mono fun e w' ⟨xa, xc, ra, rc, ma, mc, g0, g1, g2, g3, g4, g5, _, _, _⟩ => ⟨xa, xc, ra, rc, ma, mc, g0, g1, ⟨g2, g3, g4, rfl, rfl, zeroL_len nw⟩, g5⟩)
  by_cases hpw : nw < p
  · have hpI : (nw : Int) < p := by omega
    clear hv hvl
    go_enter Tryd.func7, Tryd.ntmps7
    go_wp2_with (first | (go_at_call 12; refine (HSM.out _ HU1.out).mono ?_; rintro e z ⟨rfl, hz⟩; have HU := Lib.hid (HU1.out.trans hz); have HB := Lib.hid (HB1.out.up hz); clear hz; obtain ⟨b0, b1, b2, b3⟩ := HB.out.all; have hlb := UBox.lt HB.out) | (go_at_call 19; refine (HN1.out _ HU.out).mono ?_; rintro e z1 ⟨xa, xc, ra, rc, ma, mc, rfl, hz1, -, -⟩; have HA1 := Lib.hid ((Up.refl z1).alloc (.cells #[.slice ca n cc, .slice ta m tc, .int .i64 0, .slice xa 256 xc, .slice ra 256 rc, .slice ma nw mc, .bool false] 50)); replace HB := Lib.hid ((HB.out.up hz1).up HA1.out); replace HU := Lib.hid ((HU.out.trans hz1).trans HA1.out); clear hz1 b0 b1 b2 b3 hlb; obtain ⟨b0, b1, b2, b3⟩ := HB.out.all; have hlb := UBox.lt HB.out) | (go_at_call 8; refine (law_examples _ (HT.out.up HU.out)).mono ?_; rintro e ze ⟨rfl, hze⟩))
    go_ret
    exact ⟨rfl, HU.out.trans hze⟩
  have hpI : ¬ (nw : Int) < p := by omega
  obtain ⟨kk, q, hkk, hO⟩ := opt_ex lt nw (muF l) l (Nat.le_refl _)
  have hmu := mu_le l (by rw [HN.out]; omega)
  have hk9 : kk ≤ 1000000000 := by omega
  obtain ⟨hq1, hq2, hq3, hq4⟩ := complete_of kk hvl hO
  have LQ : Hid (q.length ≤ 100000) := Lib.hid (Nat.le_trans hq4 L1.out)
  have HOP : Hid (∀ z, Up W z → Calls Tryd.prog 16 #[.agg #[.slice ca n cc, .slice ta m tc, .slice sa k sc, .int .i64 nw]] z fun e w' => ∃ c2a c2c t2a t2c s2a s2c, e = .returned (.tuple #[.agg #[.slice c2a q.length c2c, .slice t2a lt.length t2c, .slice s2a ls.length s2c, .int .i64 nw], .int .i64 kk]) ∧ Up z w' ∧ InsAt w' (.slice c2a q.length c2c) q ∧ TypAt w' (.slice t2a lt.length t2c) lt) := Lib.hid (fun z hz => by
    refine (pe_Optimize _ _ _ nw l lt ls z (HT.out.up hz) (HC.out.up hz) (HTY.out.up hz) (HS.out.up hz) L1.out L2.out L3.out kk q hO hk9).mono ?_
    rintro e w' ⟨c', t', s', rfl, g1, g2, g3, g4⟩
    obtain ⟨⟨c2a, c2c, rfl⟩, -⟩ := g2.slice
    obtain ⟨⟨t2a, t2c, rfl⟩, -⟩ := g3.slice
    obtain ⟨⟨s2a, s2c, rfl⟩, -⟩ := g4.slice
    exact ⟨_, _, _, _, _, _, rfl, g1, g2, g3⟩)
  have HN2 : Hid (∀ z c2a c2c t2a t2c, InsAt z (.slice c2a q.length c2c) q → TypAt z (.slice t2a lt.length t2c) lt → Calls Tryd.prog 19 #[.slice c2a q.length c2c, .slice t2a lt.length t2c, .int .i64 nw] z fun e w' => ∃ xa xc ra rc ma mc, e = .returned (.tuple #[.agg #[.slice c2a q.length c2c, .slice t2a lt.length t2c, .int .i64 0, .slice xa 256 xc, .slice ra 256 rc, .slice ma nw mc, .bool false], .int .i64 0]) ∧ Up z w' ∧ LS w' (.slice xa 256 xc) (.slice ra 256 rc) (.slice ma nw mc) nw ⟨zeroX, zeroL 256, zeroL nw⟩ ∧ CapOK (.slice ma nw mc)) := Lib.hid (fun z c2a c2c t2a t2c hc ht => by
    obtain ⟨⟨vi2, ve2⟩, hv2⟩ : ∃ v, validateF q lt nw = v := ⟨_, rfl⟩
    have h0 := (valid_iff q lt nw).2 hq1
    rw [hv2] at h0
    obtain rfl : ve2 = 0 := h0
    exact (r49_New _ _ _ _ _ _ q lt nw vi2 z hc ht LQ.out L2.out HNW.out hv2).mono fun e w' ⟨xa, xc, ra, rc, ma, mc, g0, g1, g2, g3, g4, g5, _, _, _⟩ => ⟨xa, xc, ra, rc, ma, mc, g0, g1, ⟨g2, g3, g4, rfl, rfl, zeroL_len nw⟩, g5⟩)
  have hpn : 0 + p ≤ nw := by omega
  have HPN := Lib.hid hpn
  have HST : Hid (∀ z (c t : Option Addr) (cn1 cc1 tn1 tc1 : Nat) xa xc ra rc ma' mc, Up W z → LS z (.slice xa 256 xc) (.slice ra 256 rc) (.slice ma' nw mc) nw ⟨zeroX, zeroL 256, zeroL nw⟩ → CapOK (.slice ma' nw mc) → Calls Tryd.prog 20 #[.agg #[.slice c cn1 cc1, .slice t tn1 tc1, .int .i64 0, .slice xa 256 xc, .slice ra 256 rc, .slice ma' nw mc, .bool false], .int .i64 0, .slice ma p mcp] z fun e w' => ∃ na nc, e = .returned (.tuple #[.agg #[.slice c cn1 cc1, .slice t tn1 tc1, .int .i64 0, .slice xa 256 xc, .slice ra 256 rc, .slice na nw nc, .bool false], .int .i64 0]) ∧ Up z w' ∧ LS w' (.slice xa 256 xc) (.slice ra 256 rc) (.slice na nw nc) nw ⟨zeroX, zeroL 256, stL (zeroL nw) 0 mem⟩ ∧ CapOK (.slice na nw nc)) := Lib.hid (fun z c t cn1 cc1 tn1 tc1 xa xc ra rc ma' mc hz hl hcap => by
    obtain ⟨b1, b2⟩ : nw ≤ mc ∧ mc ≤ 9223372036854775807 := by
      obtain ⟨a, n, c, e, g1, g2⟩ := hcap
      cases e
      exact ⟨g1, g2⟩
    have hl3 : (stL (zeroL nw) 0 mem).length = nw := by rw [stL_len _ _ _ (by rw [HP.out, zeroL_len]; exact HPN.out), zeroL_len]
    refine (r49_Store c t xa ra ma' cn1 cc1 tn1 tc1 256 xc 256 rc mc 0 false (zeroL nw) mem (.slice ma p mcp) nw p 0 z hl.M (HME.out.up hz) (zeroL_len nw) HP.out HPN.out b1 HNW.out b2).mono ?_
    rintro e w' ⟨m', rfl, g1, g2, g3, g4⟩
    obtain ⟨⟨na, nc, rfl⟩, -⟩ := g2.slice
    rw [hl3] at g2 g4 ⊢
    exact ⟨na, nc, rfl, g1, ⟨hl.X.up g1, hl.R.up g1, g2, rfl, rfl, hl3⟩, g4⟩)
  obtain ⟨R1, hR1⟩ : ∃ r, runF l lt fu 0 ⟨zeroX, zeroL 256, stL (zeroL nw) 0 mem⟩ = r := ⟨_, rfl⟩
  obtain ⟨R2, hR2⟩ : ∃ r, runF q lt fu 0 ⟨zeroX, zeroL 256, stL (zeroL nw) 0 mem⟩ = r := ⟨_, rfl⟩
  have HG : Hid (Good ⟨zeroX, zeroL 256, stL (zeroL nw) 0 mem⟩) := Lib.hid (good_zero nw mem HMR.out)
  have HSAME := Lib.hid (fun h => run_same (keepB lt nw) hvl hO HG.out fu h)
  rw [hR1, hR2] at HSAME
  have hfu : fu ≤ 3000 := by omega
  have HFU := Lib.hid hfu
  have HR1 : Hid (∀ z xa xc ra rc ma' mc, Up W z → LS z (.slice xa 256 xc) (.slice ra 256 rc) (.slice ma' nw mc) nw ⟨zeroX, zeroL 256, stL (zeroL nw) 0 mem⟩ → CapOK (.slice ma' nw mc) → Calls Tryd.prog 21 #[.agg #[.slice ca n cc, .slice ta m tc, .int .i64 0, .slice xa 256 xc, .slice ra 256 rc, .slice ma' nw mc, .bool false], .int .i64 fu] z (RunPost z ca ta n cc m tc nw R1)) := Lib.hid (fun z xa xc ra rc ma' mc hz hl hcap =>
    r49_Run ca ta xa ra ma' n cc m tc rc nw mc xc l lt _ z (HC.out.up hz) HN.out (HTY.out.up hz) HM.out (hl.mst hcap HG.out) (by rw [← HN.out]; exact L1.out) (by rw [← HM.out]; exact L2.out) HNW.out hvl fu HFU.out R1 hR1)
  have HR2 : Hid (∀ z c2a c2c t2a t2c xa xc ra rc ma' mc, InsAt z (.slice c2a q.length c2c) q → TypAt z (.slice t2a lt.length t2c) lt → LS z (.slice xa 256 xc) (.slice ra 256 rc) (.slice ma' nw mc) nw ⟨zeroX, zeroL 256, stL (zeroL nw) 0 mem⟩ → CapOK (.slice ma' nw mc) → Calls Tryd.prog 21 #[.agg #[.slice c2a q.length c2c, .slice t2a lt.length t2c, .int .i64 0, .slice xa 256 xc, .slice ra 256 rc, .slice ma' nw mc, .bool false], .int .i64 fu] z (RunPost z c2a t2a q.length c2c lt.length t2c nw R2)) := Lib.hid (fun z c2a c2c t2a t2c xa xc ra rc ma' mc hc ht hl hcap =>
    r49_Run c2a t2a xa ra ma' q.length c2c lt.length t2c rc nw mc xc q lt _ z hc rfl ht rfl (hl.mst hcap HG.out) LQ.out L2.out HNW.out hq1 fu HFU.out R2 hR2)
  have hqn : (q.length : Int) ≤ 100000 := by have := LQ.out; omega
  have hln : (lt.length : Int) ≤ 100000 := by have := L2.out; omega
  clear hv hvl hkk hO hmu hk9 hq1 hq2 hq3 hq4 hR1 hR2 hpn hfu hnw h1 h2 h3
  go_enter Tryd.func7, Tryd.ntmps7
  go_upto_region 3 with (go_at_call 12; refine (HSM.out _ HU1.out).mono ?_; rintro e z ⟨rfl, hz⟩; have HU := Lib.hid (HU1.out.trans hz); have HB := Lib.hid (HB1.out.up hz); clear hz; obtain ⟨b0, b1, b2, b3⟩ := HB.out.all; have hlb := UBox.lt HB.out)
  go_upto_region 4 with (go_at_call 19; refine (HN1.out _ HU.out).mono ?_; rintro e z1 ⟨x1a, x1c, r1a, r1c, m1a, m1c, rfl, hz1, hl1, hc1⟩; replace HU := Lib.hid (HU.out.trans hz1); replace HB := Lib.hid (HB.out.up hz1); have LA := Lib.hid hl1; have KA := Lib.hid hc1; clear hz1 hl1 hc1 b0 b1 b2 b3 hlb)
  have q1 := UBox.lt HB.out
  refine wp_gen (F := fun v => BoxC v z1.heap.size 50 #[.slice ca n cc, .slice ta m tc, .int .i64 0, .slice x1a 256 x1c, .slice r1a 256 r1c, .slice m1a nw m1c, .bool false] ∧ UBox v W.heap.size 31 (.slice ca n cc) (.slice ta m tc) (.slice sa k sc) (.int .i64 nw) ∧ LS v (.slice x1a 256 x1c) (.slice r1a 256 r1c) (.slice m1a nw m1c) nw ⟨zeroX, zeroL 256, zeroL nw⟩ ∧ Up W v) ⟨BoxC.new z1 _ _, HB.out.up ((Up.refl z1).alloc _), LA.out.up ((Up.refl z1).alloc _), HU.out.alloc _⟩ ?_
  rintro v ⟨vA, vB, vL, vU⟩
  have NA := Lib.hid vA
  have NB := Lib.hid vB
  have NL := Lib.hid vL
  have NU := Lib.hid vU
  clear vA vB vL vU
  replace HB := NB
  replace LA := NL
  replace HU := NU
  have BA := NA
  clear NA NB NL NU
  generalize z1.heap.size = p1 at *
  clear HN1
  obtain ⟨b0, b1, b2, b3⟩ := HB.out.all
  have hlb := UBox.lt HB.out
  go_upto_region 7 with (go_at_call 16; refine (HOP.out _ HU.out).mono ?_; rintro e z2 ⟨c2a, c2c, t2a, t2c, s2a, s2c, rfl, hz2, hc2, ht2⟩; replace HU := Lib.hid (HU.out.trans hz2); replace HB := Lib.hid (HB.out.up hz2); replace LA := Lib.hid (LA.out.up hz2); replace BA := Lib.hid (BA.out.up hz2); have HC2 := Lib.hid hc2; have HT2 := Lib.hid ht2; clear hz2 hc2 ht2 b0 b1 b2 b3 hlb)
  have q2 := BoxC.lt BA.out
  refine wp_gen (F := fun v => UBox v z2.heap.size 33 (.slice c2a q.length c2c) (.slice t2a lt.length t2c) (.slice s2a ls.length s2c) (.int .i64 nw) ∧ BoxC v p1 50 #[.slice ca n cc, .slice ta m tc, .int .i64 0, .slice x1a 256 x1c, .slice r1a 256 r1c, .slice m1a nw m1c, .bool false] ∧ LS v (.slice x1a 256 x1c) (.slice r1a 256 r1c) (.slice m1a nw m1c) nw ⟨zeroX, zeroL 256, zeroL nw⟩ ∧ InsAt v (.slice c2a q.length c2c) q ∧ TypAt v (.slice t2a lt.length t2c) lt ∧ Up W v) ⟨UBox.new z2 _ _ _ _ _, BA.out.up ((Up.refl z2).alloc _), LA.out.up ((Up.refl z2).alloc _), HC2.out.up ((Up.refl z2).alloc _), HT2.out.up ((Up.refl z2).alloc _), HU.out.alloc _⟩ ?_
  rintro v ⟨vC, vA, vL, vI, vT, vU⟩
  have NC := Lib.hid vC
  have NA := Lib.hid vA
  have NL := Lib.hid vL
  have NI := Lib.hid vI
  have NT := Lib.hid vT
  have NU := Lib.hid vU
  clear vC vA vL vI vT vU
  have BC := NC
  replace BA := NA
  replace LA := NL
  replace HC2 := NI
  replace HT2 := NT
  replace HU := NU
  clear NC NA NL NI NT NU HB HOP
  generalize z2.heap.size = p2 at *
  obtain ⟨b0, b1, b2, b3⟩ := BC.out.all
  have hlb := UBox.lt BC.out
  go_upto_region 8 with (go_at_call 19; refine (HN2.out _ _ _ _ _ HC2.out HT2.out).mono ?_; rintro e z3 ⟨x2a, x2c, r2a, r2c, m2a, m2c, rfl, hz3, hl3, hc3⟩; replace HU := Lib.hid (HU.out.trans hz3); replace LA := Lib.hid (LA.out.up hz3); replace BA := Lib.hid (BA.out.up hz3); replace HC2 := Lib.hid (HC2.out.up hz3); replace HT2 := Lib.hid (HT2.out.up hz3); have LB := Lib.hid hl3; have KB := Lib.hid hc3; clear hz3 hl3 hc3 b0 b1 b2 b3 hlb)
  have q3 := BoxC.lt BA.out
  refine wp_gen (F := fun v => BoxC v z3.heap.size 50 #[.slice c2a q.length c2c, .slice t2a lt.length t2c, .int .i64 0, .slice x2a 256 x2c, .slice r2a 256 r2c, .slice m2a nw m2c, .bool false] ∧ BoxC v p1 50 #[.slice ca n cc, .slice ta m tc, .int .i64 0, .slice x1a 256 x1c, .slice r1a 256 r1c, .slice m1a nw m1c, .bool false] ∧ LS v (.slice x1a 256 x1c) (.slice r1a 256 r1c) (.slice m1a nw m1c) nw ⟨zeroX, zeroL 256, zeroL nw⟩ ∧ LS v (.slice x2a 256 x2c) (.slice r2a 256 r2c) (.slice m2a nw m2c) nw ⟨zeroX, zeroL 256, zeroL nw⟩ ∧ InsAt v (.slice c2a q.length c2c) q ∧ TypAt v (.slice t2a lt.length t2c) lt ∧ Up W v) ⟨BoxC.new z3 _ _, BA.out.up ((Up.refl z3).alloc _), LA.out.up ((Up.refl z3).alloc _), LB.out.up ((Up.refl z3).alloc _), HC2.out.up ((Up.refl z3).alloc _), HT2.out.up ((Up.refl z3).alloc _), HU.out.alloc _⟩ ?_
  rintro v ⟨vD, vA, vL, vM, vI, vT, vU⟩
  have ND := Lib.hid vD
  have NA := Lib.hid vA
  have NL := Lib.hid vL
  have NM := Lib.hid vM
  have NI := Lib.hid vI
  have NT := Lib.hid vT
  have NU := Lib.hid vU
  clear vD vA vL vM vI vT vU
  have BD := ND
  replace BA := NA
  replace LA := NL
  replace LB := NM
  replace HC2 := NI
  replace HT2 := NT
  replace HU := NU
  clear ND NA NL NM NI NT NU BC HN2
  generalize z3.heap.size = p3 at *
  obtain ⟨a0, a1, a2, a3, a4, a5, a6⟩ := BA.out.seven
  obtain ⟨d0, d1, d2, d3, d4, d5, d6⟩ := BD.out.seven
  have af := BA.out.frozen
  have df := BD.out.frozen
  have la := BoxC.lt BA.out
  have ld := BoxC.lt BD.out
  go_upto_region 11 with (go_at_call 20; refine (HST.out _ _ _ _ _ _ _ _ _ _ _ _ _ HU.out LA.out KA.out).mono ?_; rintro e z4 ⟨m3a, m3c, rfl, hz, hl4, hc4⟩; replace HU := Lib.hid (HU.out.trans hz); replace LA := Lib.hid (LA.out.up hz); replace LB := Lib.hid (LB.out.up hz); replace BA := Lib.hid (BA.out.up hz); replace BD := Lib.hid (BD.out.up hz); replace HC2 := Lib.hid (HC2.out.up hz); replace HT2 := Lib.hid (HT2.out.up hz); replace LA := Lib.hid hl4; replace KA := Lib.hid hc4; clear hz hl4 hc4 a0 a1 a2 a3 a4 a5 a6 d0 d1 d2 d3 d4 d5 d6 af df la ld; obtain ⟨a0, a1, a2, a3, a4, a5, a6⟩ := BA.out.seven; obtain ⟨d0, d1, d2, d3, d4, d5, d6⟩ := BD.out.seven; have af := BA.out.frozen; have df := BD.out.frozen; have la := BoxC.lt BA.out; have ld := BoxC.lt BD.out)
  refine wp_gen (F := fun v => BoxC v p1 50 #[.slice ca n cc, .slice ta m tc, .int .i64 0, .slice x1a 256 x1c, .slice r1a 256 r1c, .slice m3a nw m3c, .bool false] ∧ BoxC v p3 50 #[.slice c2a q.length c2c, .slice t2a lt.length t2c, .int .i64 0, .slice x2a 256 x2c, .slice r2a 256 r2c, .slice m2a nw m2c, .bool false] ∧ LS v (.slice x1a 256 x1c) (.slice r1a 256 r1c) (.slice m3a nw m3c) nw ⟨zeroX, zeroL 256, stL (zeroL nw) 0 mem⟩ ∧ LS v (.slice x2a 256 x2c) (.slice r2a 256 r2c) (.slice m2a nw m2c) nw ⟨zeroX, zeroL 256, zeroL nw⟩ ∧ InsAt v (.slice c2a q.length c2c) q ∧ TypAt v (.slice t2a lt.length t2c) lt ∧ Up W v) ⟨BA.out.put7' (.slice ca n cc) (.slice ta m tc) (.int .i64 0) (.slice x1a 256 x1c) (.slice r1a 256 r1c) (.slice m3a nw m3c) (.bool false), BD.out.set7 (b := p1) (by omega) (.slice ca n cc) (.slice ta m tc) (.int .i64 0) (.slice x1a 256 x1c) (.slice r1a 256 r1c) (.slice m3a nw m3c) (.bool false), LA.out.put7 ⟨_, _, _, _, _, _, _, _, _, _, _, _, _, _, _, _, _, BA.out⟩ (.slice ca n cc) (.slice ta m tc) (.int .i64 0) (.slice x1a 256 x1c) (.slice r1a 256 r1c) (.slice m3a nw m3c) (.bool false), LB.out.put7 ⟨_, _, _, _, _, _, _, _, _, _, _, _, _, _, _, _, _, BA.out⟩ (.slice ca n cc) (.slice ta m tc) (.int .i64 0) (.slice x1a 256 x1c) (.slice r1a 256 r1c) (.slice m3a nw m3c) (.bool false), InsAt.put7 ⟨_, _, _, _, _, _, _, _, _, _, _, _, _, _, _, _, _, BA.out⟩ (.slice ca n cc) (.slice ta m tc) (.int .i64 0) (.slice x1a 256 x1c) (.slice r1a 256 r1c) (.slice m3a nw m3c) (.bool false) HC2.out, TypAt.put7 ⟨_, _, _, _, _, _, _, _, _, _, _, _, _, _, _, _, _, BA.out⟩ (.slice ca n cc) (.slice ta m tc) (.int .i64 0) (.slice x1a 256 x1c) (.slice r1a 256 r1c) (.slice m3a nw m3c) (.bool false) HT2.out, HU.out.set7 (b := p1) (by omega) (.slice ca n cc) (.slice ta m tc) (.int .i64 0) (.slice x1a 256 x1c) (.slice r1a 256 r1c) (.slice m3a nw m3c) (.bool false)⟩ ?_
  rintro v ⟨vA, vD, vL, vM, vI, vT, vU⟩
  have NA := Lib.hid vA
  have ND := Lib.hid vD
  have NL := Lib.hid vL
  have NM := Lib.hid vM
  have NI := Lib.hid vI
  have NT := Lib.hid vT
  have NU := Lib.hid vU
  clear vA vD vL vM vI vT vU
  replace BA := NA
  replace BD := ND
  replace LA := NL
  replace LB := NM
  replace HC2 := NI
  replace HT2 := NT
  replace HU := NU
  clear NA ND NL NM NI NT NU a0 a1 a2 a3 a4 a5 a6 d0 d1 d2 d3 d4 d5 d6 af df la ld
  obtain ⟨a0, a1, a2, a3, a4, a5, a6⟩ := BA.out.seven
  obtain ⟨d0, d1, d2, d3, d4, d5, d6⟩ := BD.out.seven
  have af := BA.out.frozen
  have df := BD.out.frozen
  have la := BoxC.lt BA.out
  have ld := BoxC.lt BD.out
  go_upto_region 12 with (go_at_call 20; refine (HST.out _ _ _ _ _ _ _ _ _ _ _ _ _ HU.out LB.out KB.out).mono ?_; rintro e z5 ⟨m4a, m4c, rfl, hz, hl4, hc4⟩; replace HU := Lib.hid (HU.out.trans hz); replace LA := Lib.hid (LA.out.up hz); replace LB := Lib.hid (LB.out.up hz); replace BA := Lib.hid (BA.out.up hz); replace BD := Lib.hid (BD.out.up hz); replace HC2 := Lib.hid (HC2.out.up hz); replace HT2 := Lib.hid (HT2.out.up hz); replace LB := Lib.hid hl4; replace KB := Lib.hid hc4; clear hz hl4 hc4 a0 a1 a2 a3 a4 a5 a6 d0 d1 d2 d3 d4 d5 d6 af df la ld; obtain ⟨a0, a1, a2, a3, a4, a5, a6⟩ := BA.out.seven; obtain ⟨d0, d1, d2, d3, d4, d5, d6⟩ := BD.out.seven; have af := BA.out.frozen; have df := BD.out.frozen; have la := BoxC.lt BA.out; have ld := BoxC.lt BD.out)
  refine wp_gen (F := fun v => BoxC v p1 50 #[.slice ca n cc, .slice ta m tc, .int .i64 0, .slice x1a 256 x1c, .slice r1a 256 r1c, .slice m3a nw m3c, .bool false] ∧ BoxC v p3 50 #[.slice c2a q.length c2c, .slice t2a lt.length t2c, .int .i64 0, .slice x2a 256 x2c, .slice r2a 256 r2c, .slice m4a nw m4c, .bool false] ∧ LS v (.slice x1a 256 x1c) (.slice r1a 256 r1c) (.slice m3a nw m3c) nw ⟨zeroX, zeroL 256, stL (zeroL nw) 0 mem⟩ ∧ LS v (.slice x2a 256 x2c) (.slice r2a 256 r2c) (.slice m4a nw m4c) nw ⟨zeroX, zeroL 256, stL (zeroL nw) 0 mem⟩ ∧ InsAt v (.slice c2a q.length c2c) q ∧ TypAt v (.slice t2a lt.length t2c) lt ∧ Up W v) ⟨BA.out.set7 (b := p3) (by omega) (.slice c2a q.length c2c) (.slice t2a lt.length t2c) (.int .i64 0) (.slice x2a 256 x2c) (.slice r2a 256 r2c) (.slice m4a nw m4c) (.bool false), BD.out.put7' (.slice c2a q.length c2c) (.slice t2a lt.length t2c) (.int .i64 0) (.slice x2a 256 x2c) (.slice r2a 256 r2c) (.slice m4a nw m4c) (.bool false), LA.out.put7 ⟨_, _, _, _, _, _, _, _, _, _, _, _, _, _, _, _, _, BD.out⟩ (.slice c2a q.length c2c) (.slice t2a lt.length t2c) (.int .i64 0) (.slice x2a 256 x2c) (.slice r2a 256 r2c) (.slice m4a nw m4c) (.bool false), LB.out.put7 ⟨_, _, _, _, _, _, _, _, _, _, _, _, _, _, _, _, _, BD.out⟩ (.slice c2a q.length c2c) (.slice t2a lt.length t2c) (.int .i64 0) (.slice x2a 256 x2c) (.slice r2a 256 r2c) (.slice m4a nw m4c) (.bool false), InsAt.put7 ⟨_, _, _, _, _, _, _, _, _, _, _, _, _, _, _, _, _, BD.out⟩ (.slice c2a q.length c2c) (.slice t2a lt.length t2c) (.int .i64 0) (.slice x2a 256 x2c) (.slice r2a 256 r2c) (.slice m4a nw m4c) (.bool false) HC2.out, TypAt.put7 ⟨_, _, _, _, _, _, _, _, _, _, _, _, _, _, _, _, _, BD.out⟩ (.slice c2a q.length c2c) (.slice t2a lt.length t2c) (.int .i64 0) (.slice x2a 256 x2c) (.slice r2a 256 r2c) (.slice m4a nw m4c) (.bool false) HT2.out, HU.out.set7 (b := p3) (by omega) (.slice c2a q.length c2c) (.slice t2a lt.length t2c) (.int .i64 0) (.slice x2a 256 x2c) (.slice r2a 256 r2c) (.slice m4a nw m4c) (.bool false)⟩ ?_
  rintro v ⟨vA, vD, vL, vM, vI, vT, vU⟩
  have NA := Lib.hid vA
  have ND := Lib.hid vD
  have NL := Lib.hid vL
  have NM := Lib.hid vM
  have NI := Lib.hid vI
  have NT := Lib.hid vT
  have NU := Lib.hid vU
  clear vA vD vL vM vI vT vU
  replace BA := NA
  replace BD := ND
  replace LA := NL
  replace LB := NM
  replace HC2 := NI
  replace HT2 := NT
  replace HU := NU
  clear NA ND NL NM NI NT NU a0 a1 a2 a3 a4 a5 a6 d0 d1 d2 d3 d4 d5 d6 af df la ld
  obtain ⟨a0, a1, a2, a3, a4, a5, a6⟩ := BA.out.seven
  obtain ⟨d0, d1, d2, d3, d4, d5, d6⟩ := BD.out.seven
  have af := BA.out.frozen
  have df := BD.out.frozen
  have la := BoxC.lt BA.out
  have ld := BoxC.lt BD.out
  go_upto_region 13 with (go_at_call 21; refine (HR1.out _ _ _ _ _ _ _ HU.out LA.out KA.out).mono ?_; rintro e z6 ⟨pc1, x3a, x3c, r3a, r3c, m5a, m5c, h5, rfl, hz, hx, hr, hm⟩; replace HU := Lib.hid (HU.out.trans hz); replace LA := Lib.hid (LA.out.up hz); replace LB := Lib.hid (LB.out.up hz); replace BA := Lib.hid (BA.out.up hz); replace BD := Lib.hid (BD.out.up hz); replace HC2 := Lib.hid (HC2.out.up hz); replace HT2 := Lib.hid (HT2.out.up hz); have GX := Lib.hid hx; have GR := Lib.hid hr; have GM := Lib.hid hm; clear hz hx hr hm a0 a1 a2 a3 a4 a5 a6 d0 d1 d2 d3 d4 d5 d6 af df la ld; obtain ⟨a0, a1, a2, a3, a4, a5, a6⟩ := BA.out.seven; obtain ⟨d0, d1, d2, d3, d4, d5, d6⟩ := BD.out.seven; have af := BA.out.frozen; have df := BD.out.frozen; have la := BoxC.lt BA.out; have ld := BoxC.lt BD.out)
  have hlx : R1.1.X.length = 256 := ints_len GX.out
  have HLX := Lib.hid hlx
  clear hlx
  refine wp_gen (F := fun v => BoxC v p1 50 #[.slice ca n cc, .slice ta m tc, .int .i64 (pc1 : Int), .slice x3a 256 x3c, .slice r3a 256 r3c, .slice m5a nw m5c, .bool h5] ∧ BoxC v p3 50 #[.slice c2a q.length c2c, .slice t2a lt.length t2c, .int .i64 0, .slice x2a 256 x2c, .slice r2a 256 r2c, .slice m4a nw m4c, .bool false] ∧ IntsAt v (.slice x3a 256 x3c) R1.1.X ∧ ValsAt v (.slice r3a 256 r3c) R1.1.R ∧ ValsAt v (.slice m5a nw m5c) R1.1.M ∧ LS v (.slice x2a 256 x2c) (.slice r2a 256 r2c) (.slice m4a nw m4c) nw ⟨zeroX, zeroL 256, stL (zeroL nw) 0 mem⟩ ∧ InsAt v (.slice c2a q.length c2c) q ∧ TypAt v (.slice t2a lt.length t2c) lt ∧ Up W v) ⟨BA.out.put7' (.slice ca n cc) (.slice ta m tc) (.int .i64 (pc1 : Int)) (.slice x3a 256 x3c) (.slice r3a 256 r3c) (.slice m5a nw m5c) (.bool h5), BD.out.set7 (b := p1) (by omega) (.slice ca n cc) (.slice ta m tc) (.int .i64 (pc1 : Int)) (.slice x3a 256 x3c) (.slice r3a 256 r3c) (.slice m5a nw m5c) (.bool h5), IntsAt.put7 ⟨_, _, _, _, _, _, _, _, _, _, _, _, _, _, _, _, _, BA.out⟩ (.slice ca n cc) (.slice ta m tc) (.int .i64 (pc1 : Int)) (.slice x3a 256 x3c) (.slice r3a 256 r3c) (.slice m5a nw m5c) (.bool h5) GX.out HLX.out, ValsAt.put7 ⟨_, _, _, _, _, _, _, _, _, _, _, _, _, _, _, _, _, BA.out⟩ (.slice ca n cc) (.slice ta m tc) (.int .i64 (pc1 : Int)) (.slice x3a 256 x3c) (.slice r3a 256 r3c) (.slice m5a nw m5c) (.bool h5) GR.out, ValsAt.put7 ⟨_, _, _, _, _, _, _, _, _, _, _, _, _, _, _, _, _, BA.out⟩ (.slice ca n cc) (.slice ta m tc) (.int .i64 (pc1 : Int)) (.slice x3a 256 x3c) (.slice r3a 256 r3c) (.slice m5a nw m5c) (.bool h5) GM.out, LB.out.put7 ⟨_, _, _, _, _, _, _, _, _, _, _, _, _, _, _, _, _, BA.out⟩ (.slice ca n cc) (.slice ta m tc) (.int .i64 (pc1 : Int)) (.slice x3a 256 x3c) (.slice r3a 256 r3c) (.slice m5a nw m5c) (.bool h5), InsAt.put7 ⟨_, _, _, _, _, _, _, _, _, _, _, _, _, _, _, _, _, BA.out⟩ (.slice ca n cc) (.slice ta m tc) (.int .i64 (pc1 : Int)) (.slice x3a 256 x3c) (.slice r3a 256 r3c) (.slice m5a nw m5c) (.bool h5) HC2.out, TypAt.put7 ⟨_, _, _, _, _, _, _, _, _, _, _, _, _, _, _, _, _, BA.out⟩ (.slice ca n cc) (.slice ta m tc) (.int .i64 (pc1 : Int)) (.slice x3a 256 x3c) (.slice r3a 256 r3c) (.slice m5a nw m5c) (.bool h5) HT2.out, HU.out.set7 (b := p1) (by omega) (.slice ca n cc) (.slice ta m tc) (.int .i64 (pc1 : Int)) (.slice x3a 256 x3c) (.slice r3a 256 r3c) (.slice m5a nw m5c) (.bool h5)⟩ ?_
  rintro v ⟨vA, vD, vX, vR, vG, vM, vI, vT, vU⟩
  have NA := Lib.hid vA
  have ND := Lib.hid vD
  have NX := Lib.hid vX
  have NR := Lib.hid vR
  have NG := Lib.hid vG
  have NM := Lib.hid vM
  have NI := Lib.hid vI
  have NT := Lib.hid vT
  have NU := Lib.hid vU
  clear vA vD vX vR vG vM vI vT vU
  replace BA := NA
  replace BD := ND
  replace GX := NX
  replace GR := NR
  replace GM := NG
  replace LB := NM
  replace HC2 := NI
  replace HT2 := NT
  replace HU := NU
  clear NA ND NX NR NG NM NI NT NU LA KA HR1 HST a0 a1 a2 a3 a4 a5 a6 d0 d1 d2 d3 d4 d5 d6 af df la ld
  obtain ⟨a0, a1, a2, a3, a4, a5, a6⟩ := BA.out.seven
  obtain ⟨d0, d1, d2, d3, d4, d5, d6⟩ := BD.out.seven
  have af := BA.out.frozen
  have df := BD.out.frozen
  have la := BoxC.lt BA.out
  have ld := BoxC.lt BD.out
  obtain ⟨⟨f1, f2, f3⟩, c1, e1⟩ := R1
  obtain ⟨⟨g1', g2', g3'⟩, c2, e2⟩ := R2
  dsimp only at *
  by_cases he14 : e1 = 14
  · subst he14
    clear HSAME
    go_wp2_with (go_at_call 8; refine (law_examples _ (HT.out.up HU.out)).mono ?_; rintro e ze ⟨rfl, hze⟩)
    go_ret
    exact ⟨rfl, HU.out.trans hze⟩
  obtain ⟨y1, y2, y3⟩ := HSAME.out he14
  injection y2 with y4 y5 y6
  subst y1 y4 y5 y6
  have hcc : (c2 : Int) ≤ c1 := by omega
  have he15 : (e2 == 14) = false := by simpa using he14
  clear HSAME y3 he14
  go_upto_region 16 with (go_at_call 21; refine (HR2.out _ _ _ _ _ _ _ _ _ _ _ HC2.out HT2.out LB.out KB.out).mono ?_; rintro e z7 ⟨pc2, x4a, x4c, r4a, r4c, m6a, m6c, h6, rfl, hz, hx, hr, hm⟩; replace HU := Lib.hid (HU.out.trans hz); replace LB := Lib.hid (LB.out.up hz); replace BA := Lib.hid (BA.out.up hz); replace BD := Lib.hid (BD.out.up hz); replace HC2 := Lib.hid (HC2.out.up hz); replace HT2 := Lib.hid (HT2.out.up hz); replace GX := Lib.hid (GX.out.up hz); replace GR := Lib.hid (GR.out.up hz); replace GM := Lib.hid (GM.out.up hz); have JX := Lib.hid hx; have JR := Lib.hid hr; have JM := Lib.hid hm; clear hz hx hr hm a0 a1 a2 a3 a4 a5 a6 d0 d1 d2 d3 d4 d5 d6 af df la ld; obtain ⟨a0, a1, a2, a3, a4, a5, a6⟩ := BA.out.seven; obtain ⟨d0, d1, d2, d3, d4, d5, d6⟩ := BD.out.seven; have af := BA.out.frozen; have df := BD.out.frozen; have la := BoxC.lt BA.out; have ld := BoxC.lt BD.out)
  refine wp_gen (F := fun v => BoxC v p1 50 #[.slice ca n cc, .slice ta m tc, .int .i64 (pc1 : Int), .slice x3a 256 x3c, .slice r3a 256 r3c, .slice m5a nw m5c, .bool h5] ∧ BoxC v p3 50 #[.slice c2a q.length c2c, .slice t2a lt.length t2c, .int .i64 (pc2 : Int), .slice x4a 256 x4c, .slice r4a 256 r4c, .slice m6a nw m6c, .bool h6] ∧ IntsAt v (.slice x3a 256 x3c) g1' ∧ ValsAt v (.slice r3a 256 r3c) g2' ∧ ValsAt v (.slice m5a nw m5c) g3' ∧ IntsAt v (.slice x4a 256 x4c) g1' ∧ ValsAt v (.slice r4a 256 r4c) g2' ∧ ValsAt v (.slice m6a nw m6c) g3' ∧ Up W v) ⟨BA.out.set7 (b := p3) (by omega) (.slice c2a q.length c2c) (.slice t2a lt.length t2c) (.int .i64 (pc2 : Int)) (.slice x4a 256 x4c) (.slice r4a 256 r4c) (.slice m6a nw m6c) (.bool h6), BD.out.put7' (.slice c2a q.length c2c) (.slice t2a lt.length t2c) (.int .i64 (pc2 : Int)) (.slice x4a 256 x4c) (.slice r4a 256 r4c) (.slice m6a nw m6c) (.bool h6), IntsAt.put7 ⟨_, _, _, _, _, _, _, _, _, _, _, _, _, _, _, _, _, BD.out⟩ (.slice c2a q.length c2c) (.slice t2a lt.length t2c) (.int .i64 (pc2 : Int)) (.slice x4a 256 x4c) (.slice r4a 256 r4c) (.slice m6a nw m6c) (.bool h6) GX.out HLX.out, ValsAt.put7 ⟨_, _, _, _, _, _, _, _, _, _, _, _, _, _, _, _, _, BD.out⟩ (.slice c2a q.length c2c) (.slice t2a lt.length t2c) (.int .i64 (pc2 : Int)) (.slice x4a 256 x4c) (.slice r4a 256 r4c) (.slice m6a nw m6c) (.bool h6) GR.out, ValsAt.put7 ⟨_, _, _, _, _, _, _, _, _, _, _, _, _, _, _, _, _, BD.out⟩ (.slice c2a q.length c2c) (.slice t2a lt.length t2c) (.int .i64 (pc2 : Int)) (.slice x4a 256 x4c) (.slice r4a 256 r4c) (.slice m6a nw m6c) (.bool h6) GM.out, IntsAt.put7 ⟨_, _, _, _, _, _, _, _, _, _, _, _, _, _, _, _, _, BD.out⟩ (.slice c2a q.length c2c) (.slice t2a lt.length t2c) (.int .i64 (pc2 : Int)) (.slice x4a 256 x4c) (.slice r4a 256 r4c) (.slice m6a nw m6c) (.bool h6) JX.out HLX.out, ValsAt.put7 ⟨_, _, _, _, _, _, _, _, _, _, _, _, _, _, _, _, _, BD.out⟩ (.slice c2a q.length c2c) (.slice t2a lt.length t2c) (.int .i64 (pc2 : Int)) (.slice x4a 256 x4c) (.slice r4a 256 r4c) (.slice m6a nw m6c) (.bool h6) JR.out, ValsAt.put7 ⟨_, _, _, _, _, _, _, _, _, _, _, _, _, _, _, _, _, BD.out⟩ (.slice c2a q.length c2c) (.slice t2a lt.length t2c) (.int .i64 (pc2 : Int)) (.slice x4a 256 x4c) (.slice r4a 256 r4c) (.slice m6a nw m6c) (.bool h6) JM.out, HU.out.set7 (b := p3) (by omega) (.slice c2a q.length c2c) (.slice t2a lt.length t2c) (.int .i64 (pc2 : Int)) (.slice x4a 256 x4c) (.slice r4a 256 r4c) (.slice m6a nw m6c) (.bool h6)⟩ ?_
  rintro v ⟨vA, vD, vX, vR, vG, vP, vQ, vO, vU⟩
  have NA := Lib.hid vA
  have ND := Lib.hid vD
  have NX := Lib.hid vX
  have NR := Lib.hid vR
  have NG := Lib.hid vG
  have NP := Lib.hid vP
  have NQ := Lib.hid vQ
  have NO := Lib.hid vO
  have NU := Lib.hid vU
  clear vA vD vX vR vG vP vQ vO vU
  replace BA := NA
  replace BD := ND
  replace GX := NX
  replace GR := NR
  replace GM := NG
  replace JX := NP
  replace JR := NQ
  replace JM := NO
  replace HU := NU
  clear NA ND NX NR NG NP NQ NO NU LB KB HR2 HC2 HT2 a0 a1 a2 a3 a4 a5 a6 d0 d1 d2 d3 d4 d5 d6 af df la ld
  obtain ⟨a0, a1, a2, a3, a4, a5, a6⟩ := BA.out.seven
  obtain ⟨d0, d1, d2, d3, d4, d5, d6⟩ := BD.out.seven
  have af := BA.out.frozen
  have df := BD.out.frozen
  have la := BoxC.lt BA.out
  have ld := BoxC.lt BD.out
  go_wp2_with (first
    | (go_at_call 22; (with_reducible refine (base_Vals (.slice m5a nw m5c) (.slice m6a nw m6c) g3' _ GM.out JM.out).mono ?_); rintro e z8 ⟨rfl, hz⟩; replace HU := Lib.hid (HU.out.trans hz); replace BA := Lib.hid (BA.out.up hz); replace BD := Lib.hid (BD.out.up hz); replace GX := Lib.hid (GX.out.up hz); replace GR := Lib.hid (GR.out.up hz); replace GM := Lib.hid (GM.out.up hz); replace JX := Lib.hid (JX.out.up hz); replace JR := Lib.hid (JR.out.up hz); replace JM := Lib.hid (JM.out.up hz); clear hz a0 a1 a2 a3 a4 a5 a6 d0 d1 d2 d3 d4 d5 d6 af df la ld; obtain ⟨a0, a1, a2, a3, a4, a5, a6⟩ := BA.out.seven; obtain ⟨d0, d1, d2, d3, d4, d5, d6⟩ := BD.out.seven; have af := BA.out.frozen; have df := BD.out.frozen; have la := BoxC.lt BA.out; have ld := BoxC.lt BD.out)
    | (go_at_call 22; (with_reducible refine (base_Vals (.slice r3a 256 r3c) (.slice r4a 256 r4c) g2' _ GR.out JR.out).mono ?_); rintro e z9 ⟨rfl, hz⟩; replace HU := Lib.hid (HU.out.trans hz); replace BA := Lib.hid (BA.out.up hz); replace BD := Lib.hid (BD.out.up hz); replace GX := Lib.hid (GX.out.up hz); replace GR := Lib.hid (GR.out.up hz); replace GM := Lib.hid (GM.out.up hz); replace JX := Lib.hid (JX.out.up hz); replace JR := Lib.hid (JR.out.up hz); replace JM := Lib.hid (JM.out.up hz); clear hz a0 a1 a2 a3 a4 a5 a6 d0 d1 d2 d3 d4 d5 d6 af df la ld; obtain ⟨a0, a1, a2, a3, a4, a5, a6⟩ := BA.out.seven; obtain ⟨d0, d1, d2, d3, d4, d5, d6⟩ := BD.out.seven; have af := BA.out.frozen; have df := BD.out.frozen; have la := BoxC.lt BA.out; have ld := BoxC.lt BD.out)
    | (go_at_call 23; refine (base_Int64s (.slice x3a 256 x3c) (.slice x4a 256 x4c) g1' _ GX.out JX.out).mono ?_; rintro e z10 ⟨rfl, hz⟩; replace HU := Lib.hid (HU.out.trans hz); replace BA := Lib.hid (BA.out.up hz); replace BD := Lib.hid (BD.out.up hz); replace GX := Lib.hid (GX.out.up hz); replace GR := Lib.hid (GR.out.up hz); replace GM := Lib.hid (GM.out.up hz); replace JX := Lib.hid (JX.out.up hz); replace JR := Lib.hid (JR.out.up hz); replace JM := Lib.hid (JM.out.up hz); clear hz a0 a1 a2 a3 a4 a5 a6 d0 d1 d2 d3 d4 d5 d6 af df la ld; obtain ⟨a0, a1, a2, a3, a4, a5, a6⟩ := BA.out.seven; obtain ⟨d0, d1, d2, d3, d4, d5, d6⟩ := BD.out.seven; have af := BA.out.frozen; have df := BD.out.frozen; have la := BoxC.lt BA.out; have ld := BoxC.lt BD.out)
    | (go_at_call 8; refine (law_examples _ (HT.out.up HU.out)).mono ?_; rintro e ze ⟨rfl, hze⟩))
  go_ret
  exact ⟨rfl, HU.out.trans hze⟩
end Go.Proofs.YtbpojmhgifgfdaaDoor.peepholePreserves
