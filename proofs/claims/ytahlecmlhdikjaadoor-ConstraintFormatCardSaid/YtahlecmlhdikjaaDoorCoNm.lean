/-
  Normalize of the program's side: the walk.
-/
import Derived.Test.YtahlecmlhdikjaaDoorCoI
import Derived.Test.YtahlecmlhdikjaaDoorCoA
namespace Go.Proofs.YtahlecmlhdikjaaDoor
open Go.ChangeShapes Go.WideShapes Go.ChangeAt Go.RowKit
set_option linter.unusedVariables false
set_option linter.unusedSimpArgs false
set_option maxRecDepth 100000

theorem TsAt.slice {w : World} {v : Value} {ts : List TCon} (h : TsAt w v ts) : (∃ a cap, v = .slice a ts.length cap) ∧ ts.length ≤ 9223372036854775807 := by
  obtain ⟨vs, ⟨⟨a, cap, hv, _, _⟩, hm⟩, _⟩ := h
  exact ⟨⟨a, cap, hv⟩, hm⟩
theorem TsAt.elem {w wr : World} {v : Value} {ts : List TCon} (h : TsAt w v ts) (hU : Up w wr) (k : Nat) (hk : k < ts.length) {n : Nat} (hn : ts.length = n) {a : Option Addr} {cap : Nat} (hv : v = .slice a n cap) :
    ∃ bl off lv K l e q, a = some ⟨bl, off, none⟩ ∧ bl < w.heap.size ∧ ts.getD k t0 = ((K, l, e), q) ∧ wr.cell? ⟨bl, off + k * 4, none⟩ = some (.int .i64 K) ∧ wr.cell? ⟨bl, off + k * 4 + 1, none⟩ = some lv ∧ wr.cell? ⟨bl, off + k * 4 + 2, none⟩ = some (.bool e) ∧ wr.cell? ⟨bl, off + k * 4 + 3, none⟩ = some (.int .i64 q) ∧ Part w lv l ∧ In64 K := by
  subst hn
  obtain ⟨vs, ⟨⟨a', cap', hv', h0, hc⟩, hmax⟩, hl⟩ := h
  rw [hv'] at hv
  simp only [Value.slice.injEq] at hv
  obtain ⟨rfl, -, rfl⟩ := hv
  cases a' with
  | none => exact absurd (h0 rfl) (by omega)
  | some x =>
    obtain ⟨g1, g2, g3⟩ := hc x rfl (by omega)
    obtain ⟨bl, off, sp⟩ := x
    have g1' : sp = none := g1
    subst g1'
    have g2' : bl < w.heap.size := g2
    exact ⟨bl, off, vs k, (ts.getD k t0).1.1, (ts.getD k t0).1.2.1, (ts.getD k t0).1.2.2, (ts.getD k t0).2, rfl, g2', rfl,
      (hU.cell _ _ g2').trans (g3 k 0 hk (by omega)), (hU.cell _ _ g2').trans (g3 k 1 hk (by omega)), (hU.cell _ _ g2').trans (g3 k 2 hk (by omega)), (hU.cell _ _ g2').trans (g3 k 3 hk (by omega)), (hl k hk).1, (hl k hk).2⟩
theorem ts_drop {ts : List TCon} {i : Nat} (h : i < ts.length) {t : TCon} (hg : ts.getD i t0 = t) : ts.drop i = t :: ts.drop (i + 1) := by
  have := List.drop_eq_getElem_cons (l := ts) (i := i) h
  rw [this]
  congr 1
  rw [List.getD_eq_getElem?_getD, List.getElem?_eq_getElem h] at hg
  exact hg
theorem allF_len : ∀ (cs : List Con) (acc : List TCon), (allF cs acc).1.length ≤ cs.length + acc.length := by
  intro cs
  induction cs with
  | nil => intro acc; show acc.length ≤ _; simp
  | cons c r ih =>
    intro acc
    rw [allF_cons]
    split
    · simp
    · have := ih (acc ++ [((tightF c).1, (tightF c).2.1)])
      simp only [List.length_append, List.length_cons, List.length_nil] at this ⊢
      omega

/-- A list of constraints, whether it can be met, an error. -/
def NormR (w : World) (r : List Con × Bool × Int) (e : Ending) (w' : World) : Prop := (∃ v, e = .returned (.tuple #[v, .bool r.2.1, .int .i64 r.2.2]) ∧ ConsAt w' v r.1) ∧ Up w w'

set_option maxHeartbeats 8000000 in
theorem con_Normalize (v : Value) (cs : List Con) (w : World) (hv : ConsAt w v cs) (hn : cs.length ≤ 300) (hlen : ∀ c ∈ cs, c.2.1.length ≤ 1000) :
    Calls Tryd.prog 23 #[v] w (NormR w (normF cs)) := by
  obtain ⟨r, hr⟩ : ∃ r, normF cs = r := ⟨_, rfl⟩
  rw [hr]
  obtain ⟨⟨a, cap, rfl⟩, hmax⟩ := hv.slice
  obtain ⟨n, hnn⟩ : ∃ n, cs.length = n := ⟨_, rfl⟩
  obtain ⟨q, hq⟩ : ∃ q, allF cs [] = q := ⟨_, rfl⟩
  have HR : Hid ((if 256 < n then ([], false, 2) else if q.2 ≠ 0 then ([], false, q.2) else if (normG q.1 [] true).2 then ((normG q.1 [] true).1, true, 0) else ([], false, 0)) = r) := Lib.hid (by
    rw [← hr]; unfold normF; rw [hq, hnn])
  have HA : Hid (Calls Tryd.prog 48 #[.slice a n cap, .func (.func 49) #[] #[]] w (AllR w q)) := Lib.hid (by
    have := con_all _ cs w hv hn hlen
    rw [hq, hnn] at this; exact this)
  have HQL : Hid (q.1.length ≤ 300) := Lib.hid (by
    have := allF_len cs []
    rw [hq] at this; simp at this; omega)
  rw [hnn] at hn ⊢
  have hnI : (n : Int) ≤ 300 := by omega
  obtain ⟨ts, qe⟩ := q
  dsimp only at HR HQL
  clear hr hnn hq hv hlen hmax
  by_cases h256 : 256 < n
  · have hI : (256 : Int) < (n : Int) := by omega
    have HG : Hid (r = ([], false, 2)) := Lib.hid (by rw [← HR.out, if_pos h256])
    go_enter Tryd.func23, Tryd.ntmps23
    go_wp2
    go_ret3
    exact ⟨⟨.slice none 0 0, by rw [HG.out]; first | rfl | simp, by rw [HG.out]; exact cons_nil _⟩, Up.refl w⟩
  · have hI : (n : Int) ≤ 256 := by omega
    replace HR := Lib.hid ((if_neg h256).symm.trans HR.out)
    go_enter Tryd.func23, Tryd.ntmps23
    go_wp2_with fail
    refine HA.out.mono ?_
    rintro e x1 ⟨⟨v1, rfl, hts⟩, hx1⟩
    by_cases h2 : qe = 0
    · subst h2
      replace HR := Lib.hid ((if_neg (fun h => h rfl)).symm.trans HR.out)
      dsimp only at hts ⊢
      obtain ⟨⟨a1, c1, rfl⟩, hm1⟩ := hts.slice
      obtain ⟨m, hm⟩ : ∃ m, ts.length = m := ⟨_, rfl⟩
      have HM := Lib.hid hm
      have HX1 := Lib.hid hx1
      have HTS := Lib.hid hts
      rw [hm] at hm1 HQL ⊢
      have hmI : (m : Int) ≤ 300 := by have := HQL.out; omega
      clear hm hts hx1 HA hm1
      obtain ⟨g, hg⟩ : ∃ g, normG ts [] true = g := ⟨_, rfl⟩
      rw [hg] at HR
      have HGG := Lib.hid hg
      clear hg
      go_wp2
      go_loopw [7, 8, 26] (fun ov fv iv wr => ∃ (i : Nat) (out : List Con) (vs : Nat → Value) (ft : Bool), i ≤ m ∧ iv = .int .i64 i ∧ fv = .bool ft ∧ out.length ≤ i ∧ RowC x1 x1.heap.size wr ov out vs ∧ Up x1 wr ∧ normG (ts.drop i) out ft = g) (fun _ _ iv _ => m - (intOf iv).toNat)
      case atStart => exact ⟨0, [], fun _ => undef, true, by omega, rfl, rfl, by simp, ⟨World.ownsRow_nil _ _ _ _, fun j hj => absurd hj (by simp)⟩, Up.refl _, by rw [List.drop_zero]; exact HGG.out⟩
      case round =>
        rename World => wr
        obtain ⟨i, out, vs, ft, hi, rfl, rfl, hol, hrow, hU, hf⟩ := hrel
        have HU := Lib.hid hU
        have HRW := Lib.hid hrow
        have HOL := Lib.hid hol
        obtain ⟨va, vc, hva⟩ := own_slice hrow.1
        subst hva
        obtain ⟨on, hon⟩ : ∃ n, out.length = n := ⟨_, rfl⟩
        rw [hon] at HRW HOL ⊢
        have HON := Lib.hid hon
        clear hU hrow hol hon
        by_cases hlt : i < m
        · have hltI : (i : Int) < m := by omega
          obtain ⟨bl, off, lv, K, l, b, k, ha, hbl, hg, k0, k1, k2, k3, hp, hK⟩ := HTS.out.elem HU.out i (by rw [HM.out]; exact hlt) HM.out (by rw [HM.out])
          subst ha
          rw [ts_drop (by rw [HM.out]; exact hlt) hg, normG_cons] at hf
          dsimp only at hf
          have hb1 : bl < wr.heap.size := Nat.lt_of_lt_of_le hbl HU.out.size
          obtain ⟨al, capl, rfl⟩ := hp.1.slice
          obtain ⟨nl, hnl⟩ : ∃ n, l.length = n := ⟨_, rfl⟩
          have HP := Lib.hid hp
          rw [hnl] at HP k1
          have HK := Lib.hid hK
          have HF := Lib.hid hf
          clear hf hg hbl hp hK hnl
          by_cases hk0 : k = 0
          · subst hk0
            obtain ⟨z, hz⟩ : ∃ z, insF (K, l, b) out = z := ⟨_, rfl⟩
            have HIN : Hid (∀ w, Up wr w → Calls Tryd.prog 50 #[.slice va on vc, .agg #[.int .i64 K, .slice al nl capl, .bool b]] w (InsR x1 x1.heap.size z)) := Lib.hid fun w hw => by
              rw [← hz]
              exact con_insert x1 _ rfl _ _ out vs K l b w (HU.out.trans hw) (HRW.out.up hw) HP.out HK.out (by rw [HON.out]; have := HOL.out; have := HQL.out; omega)
            have HF2 : Hid (normG (ts.drop (i + 1)) z.1 (ft && z.2) = g) := Lib.hid (by rw [← HF.out, if_pos rfl, hz])
            have HZL : Hid (z.1.length ≤ i + 1) := Lib.hid (by
              have := insG_len (K, l, b) out out 0 out.length
              have e : insG (K, l, b) out out 0 out.length = z := hz
              rw [e] at this
              have h1 := HOL.out
              have h2 := HON.out
              omega)
            obtain ⟨z1, z2⟩ := z
            dsimp only at HF2 HZL
            clear hz HF
            go_wp2_with fail
            refine (HIN.out _ ((Up.refl wr).alloc _)).mono ?_
            rintro e x2 ⟨v2, vs2, rfl, hrow2, hu2⟩
            have HR2 := Lib.hid hrow2
            have HU2 := Lib.hid hu2
            obtain ⟨va2, vc2, hva2⟩ := own_slice hrow2.1
            subst hva2
            clear hrow2 hu2 HIN
            cases ft
            all_goals
              go_wp2
              go_roundw
              case rel => exact ⟨i + 1, z1, vs2, _, by omega, by go_num, rfl, HZL.out, HR2.out, HU2.out, HF2.out⟩
              case measure => simp [intOf]; omega
          · have hk0' : (k == 0) = false := by simpa using hk0
            by_cases hk2 : k = 2
            · subst hk2
              have HF2 : Hid (normG (ts.drop (i + 1)) out false = g) := Lib.hid (by rw [← HF.out]; rfl)
              go_wp2
              go_roundw
              case rel => exact ⟨i + 1, out, vs, false, by omega, by go_num, rfl, by rw [HON.out]; have := HOL.out; omega, by have := HRW.out.up ((Up.refl wr).alloc (.cells #[.int .i64 K, .slice al nl capl, .bool b, .int .i64 2] 78)); exact this, HU.out.alloc _, HF2.out⟩
              case measure => simp [intOf]; omega
            · have hk2' : (k == 2) = false := by simpa using hk2
              have HF2 : Hid (normG (ts.drop (i + 1)) out ft = g) := Lib.hid (by rw [← HF.out, if_neg hk0, if_neg hk2])
              go_wp2
              go_roundw
              case rel => exact ⟨i + 1, out, vs, ft, by omega, by go_num, rfl, by rw [HON.out]; have := HOL.out; omega, by have := HRW.out.up ((Up.refl wr).alloc (.cells #[.int .i64 K, .slice al nl capl, .bool b, .int .i64 k] 78)); exact this, HU.out.alloc _, HF2.out⟩
              case measure => simp [intOf]; omega
        · obtain rfl : i = m := by omega
          have HG : Hid (g = (out, ft)) := Lib.hid (by rw [← hf, List.drop_eq_nil_of_le (by rw [HM.out]; exact Nat.le_refl _)]; rfl)
          clear hf
          have HUU := Lib.hid (HX1.out.trans HU.out)
          cases ft
          · have HG2 : Hid (r = ([], false, 0)) := Lib.hid (by rw [← HR.out, HG.out]; rfl)
            go_wp2
            go_ret3
            exact ⟨⟨.slice none 0 0, by rw [HG2.out]; first | rfl | simp, by rw [HG2.out]; exact cons_nil _⟩, HUU.out⟩
          · have HG2 : Hid (r = (out, true, 0)) := Lib.hid (by rw [← HR.out, HG.out]; rfl)
            have HCO : Hid (ConsAt wr (.slice va on vc) out) := Lib.hid (HRW.out.cons HU.out (by rw [HON.out]; have := HOL.out; have := HQL.out; omega))
            go_wp2
            go_ret3
            exact ⟨⟨.slice va on vc, by rw [HG2.out]; first | rfl | simp, by rw [HG2.out]; exact HCO.out⟩, HUU.out⟩
    · have h2' : (qe == 0) = false := by simpa using h2
      have HG : Hid (r = ([], false, qe)) := Lib.hid (by rw [← HR.out, if_pos h2])
      have HX1 := Lib.hid hx1
      clear hts hx1
      go_wp2
      go_ret3
      exact ⟨⟨.slice none 0 0, by rw [HG.out]; first | rfl | simp, by rw [HG.out]; exact cons_nil _⟩, HX1.out⟩
end Go.Proofs.YtahlecmlhdikjaaDoor
