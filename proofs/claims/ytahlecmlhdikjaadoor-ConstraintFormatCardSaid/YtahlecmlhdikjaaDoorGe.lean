/-
  Joined by a program: CoP, CoOp, CoV, CoG, CoO.
-/
import Derived.Test.YtahlecmlhdikjaaDoorGb
import Derived.Test.YtahlecmlhdikjaaDoorGd
import Derived.Deep.RegionWith
import Derived.BigRegion
import Derived.Test.YtahlecmlhdikjaaDoorGc

section
namespace Go.Proofs.YtahlecmlhdikjaaDoor
set_option linter.unusedSimpArgs false
open Go.ChangeShapes Go.WideShapes Go.ChangeAt Go.RowKit
set_option linter.unusedVariables false

/-- A constraint: the constant, the monomials, whether it is an equation. -/
abbrev Con := Int × List Mono × Bool
abbrev c0 : Con := (0, [], false)
def conV (c : Con) (v : Value) : Value := .agg #[.int .i64 c.1, v, .bool c.2.2]
def conF (cs : List Con) (vs : Nat → Value) (i j : Nat) : Value := match j with
  | 0 => .int .i64 (cs.getD i c0).1
  | 1 => vs i
  | _ => .bool (cs.getD i c0).2.2
/-- A list of constraints in memory: each form's monomials with their ranges. -/
def ConsAt (w : World) (v : Value) (cs : List Con) : Prop :=
  ∃ vs : Nat → Value, SlAt w v cs.length 3 (conF cs vs) ∧ ∀ i, i < cs.length → Part w (vs i) (cs.getD i c0).2.1 ∧ In64 (cs.getD i c0).1
theorem Part.up {w w' : World} {v : Value} {l : List Mono} (h : Part w v l) (u : Up w w') : Part w' v l := ⟨h.1.up u, h.2.1, h.2.2⟩
theorem ConsAt.slice {w : World} {v : Value} {cs : List Con} (h : ConsAt w v cs) : (∃ a cap, v = .slice a cs.length cap) ∧ cs.length ≤ 9223372036854775807 := by
  obtain ⟨vs, ⟨⟨a, cap, hv, _, _⟩, hm⟩, _⟩ := h
  exact ⟨⟨a, cap, hv⟩, hm⟩
theorem ConsAt.up {w w' : World} {v : Value} {cs : List Con} (h : ConsAt w v cs) (u : Up w w') : ConsAt w' v cs := by
  obtain ⟨vs, h1, h2⟩ := h
  exact ⟨vs, h1.up u, fun i hi => ⟨(h2 i hi).1.up u, (h2 i hi).2⟩⟩
theorem ConsAt.elem {w wr : World} {v : Value} {cs : List Con} (h : ConsAt w v cs) (hU : Up w wr) (k : Nat) (hk : k < cs.length) {n : Nat} (hn : cs.length = n) {a : Option Addr} {cap : Nat} (hv : v = .slice a n cap) :
    ∃ bl off lv K l e, a = some ⟨bl, off, none⟩ ∧ bl < w.heap.size ∧ cs.getD k c0 = (K, l, e) ∧ wr.cell? ⟨bl, off + k * 3, none⟩ = some (.int .i64 K) ∧ wr.cell? ⟨bl, off + k * 3 + 1, none⟩ = some lv ∧ wr.cell? ⟨bl, off + k * 3 + 2, none⟩ = some (.bool e) ∧ Part wr lv l ∧ In64 K := by
  subst hn
  obtain ⟨vs, ⟨⟨a', cap', hv', h0, hc⟩, hmax⟩, hl⟩ := h
  rw [hv'] at hv
  simp only [Value.slice.injEq] at hv
  obtain ⟨rfl, -, rfl⟩ := hv
  cases a' with
  | none => exact absurd (h0 rfl) (by omega)
  | some x =>
    obtain ⟨g1, g2, g3⟩ := hc x rfl (by omega)
    obtain ⟨bl, off, sp⟩ := x
    have g1' : sp = none := g1
    subst g1'
    have g2' : bl < w.heap.size := g2
    have k0 := (hU.cell _ _ g2').trans (g3 k 0 hk (by omega))
    have k1 := (hU.cell _ _ g2').trans (g3 k 1 hk (by omega))
    have k2 := (hU.cell _ _ g2').trans (g3 k 2 hk (by omega))
    exact ⟨bl, off, vs k, (cs.getD k c0).1, (cs.getD k c0).2.1, (cs.getD k c0).2.2, rfl, g2', rfl, k0, k1, k2, (hl k hk).1.up hU, (hl k hk).2⟩

def holdsB (n : Int) (eq : Bool) : Bool := decide (n = 0) || (decide (0 < n) && !eq)
def holdsF (c : Con) (env : List Mono) : Bool × Int :=
  if (evalF c.1 c.2.1 env).2 ≠ 0 then (false, (evalF c.1 c.2.1 env).2) else (holdsB (evalF c.1 c.2.1 env).1 c.2.2, 0)
def firstF (env : List Mono) : List Con → Int → Int × Int
  | [], i => (i, 0)
  | c :: r, i => if (holdsF c env).2 ≠ 0 ∨ (holdsF c env).1 = false then (i, (holdsF c env).2) else firstF env r (i + 1)

theorem firstF_cons (env : List Mono) (c : Con) (r : List Con) (i : Int) : firstF env (c :: r) i = if (holdsF c env).2 ≠ 0 ∨ (holdsF c env).1 = false then (i, (holdsF c env).2) else firstF env r (i + 1) := rfl

def gcdL (l : List Mono) : Nat := l.foldl (fun g m => Nat.gcd g m.2.natAbs) 0
def divL (l : List Mono) (g : Int) : List Mono := l.map fun m => (m.1, m.2 / g)
def negL (l : List Mono) : List Mono := l.map fun m => (m.1, -m.2)
def negFit (l : List Mono) : Bool := l.all fun m => decide (m.2 ≠ -9223372036854775808)
/-- Tighten: the constraint, its kind, the error. -/
def tightF (c : Con) : Con × Int × Int :=
  if okL c.2.1 then
    (if c.2.1.length = 0 then (if holdsB c.1 c.2.2 then (c0, 1, 0) else ((-1, [], false), 2, 0))
      else if c.2.2 && decide (c.1 % (gcdL c.2.1 : Int) ≠ 0) then ((-1, [], false), 2, 0)
      else if c.2.2 && decide ((c.2.1.getD 0 m0).2 < 0) then
        (if decide (c.1 / (gcdL c.2.1 : Int) ≠ -9223372036854775808) && negFit (divL c.2.1 (gcdL c.2.1)) then ((-(c.1 / (gcdL c.2.1 : Int)), negL (divL c.2.1 (gcdL c.2.1)), true), 0, 0) else (c0, 0, 3))
      else ((c.1 / (gcdL c.2.1 : Int), divL c.2.1 (gcdL c.2.1), c.2.2), 0, 0))
  else (c0, 0, 1)
/-- Negate: the alternatives, the error. -/
def negF (c : Con) : List Con × Int :=
  if okL c.2.1 then
    (if negFit c.2.1 then
      (if c.2.2 then (if c.1 = -9223372036854775808 then ([], 3) else ([(c.1 - 1, c.2.1, false), (-1 - c.1, negL c.2.1, false)], 0)) else ([(-1 - c.1, negL c.2.1, false)], 0))
      else ([], 3))
  else ([], 1)

theorem gcd_pos {l : List Mono} (h : okL l = true) (h0 : l.length ≠ 0) : 0 < gcdL l := by
  have key : ∀ (l : List Mono) (g : Nat), 0 < g → 0 < l.foldl (fun g m => Nat.gcd g m.2.natAbs) g := by
    intro l
    induction l with
    | nil => exact fun g hg => hg
    | cons m r ih => exact fun g hg => ih _ (Nat.gcd_pos_of_pos_left _ hg)
  cases l with
  | nil => exact absurd rfl h0
  | cons m r =>
    have hm := ((okFrom_cons none m r).1 h).2.1
    exact key r _ (Nat.gcd_pos_of_pos_right _ (by omega))
theorem gcd_dvd (l : List Mono) : ∀ m ∈ l, (gcdL l : Int) ∣ m.2 := by
  have key : ∀ (l : List Mono) (g : Nat), (l.foldl (fun g m => Nat.gcd g m.2.natAbs) g ∣ g) ∧ ∀ m ∈ l, l.foldl (fun g m => Nat.gcd g m.2.natAbs) g ∣ m.2.natAbs := by
    intro l
    induction l with
    | nil => exact fun g => ⟨Nat.dvd_refl g, fun m hm => by cases hm⟩
    | cons m r ih =>
      intro g
      obtain ⟨h1, h2⟩ := ih (Nat.gcd g m.2.natAbs)
      refine ⟨Nat.dvd_trans h1 (Nat.gcd_dvd_left _ _), fun x hx => ?_⟩
      rcases List.mem_cons.1 hx with rfl | hx
      · exact Nat.dvd_trans h1 (Nat.gcd_dvd_right _ _)
      · exact h2 x hx
  exact fun m hm => Int.ofNat_dvd_left.2 ((key l 0).2 m hm)
theorem gcd_le (l : List Mono) (hl : Rng l) : gcdL l ≤ 9223372036854775808 := by
  have key : ∀ (l : List Mono) (g : Nat), (∀ m ∈ l, In64 m.2) → g ≤ 9223372036854775808 → l.foldl (fun g m => Nat.gcd g m.2.natAbs) g ≤ 9223372036854775808 := by
    intro l
    induction l with
    | nil => exact fun g _ hg => hg
    | cons m r ih =>
      intro g h hg
      refine ih _ (fun x hx => h x (by simp [hx])) ?_
      have hm := h m (by simp)
      unfold In64 at hm
      rcases Nat.eq_zero_or_pos g with rfl | h1
      · show Nat.gcd 0 _ ≤ _
        rw [Nat.gcd_zero_left]; omega
      · exact Nat.le_trans (Nat.gcd_le_left _ h1) hg
  exact key l 0 hl.mem (by omega)
end Go.Proofs.YtahlecmlhdikjaaDoor
end

section
namespace Go.Proofs.YtahlecmlhdikjaaDoor
set_option linter.unusedSimpArgs false
open Go.ChangeShapes Go.WideShapes Go.ChangeAt Go.RowKit Go.Joins Go.Deep
set_option linter.unusedVariables false

def ConArg (w : World) (v : Value) (c : Con) : Prop := ∃ lv, v = .agg #[.int .i64 c.1, lv, .bool c.2.2] ∧ Part w lv c.2.1 ∧ In64 c.1
theorem cellsCon : Tryd.prog.cellsOf 26 = 3 := by kernel_rfl

set_option maxRecDepth 100000 in
theorem trod_Con {H : Type} {enc : TypeId × Value → H} {w : World} {base : Nat} {spare : Nat → Bool} {held : Bool} {fuel : Nat} {d0 d1 d2 : Value} {x : DataW H × List MemPlace}
    (hf : DataW.trod enc Tryd.prog w base spare held fuel 26 [d0, d1, d2] = some x) : ∃ c, ConArg w (.agg #[d0, d1, d2]) c := by
  obtain ⟨xs, n, _, hx, _, hlen, hg⟩ := DataW.trod_struct Tryd.underlying26 hf
  have hl : xs.length = 2 := hlen
  obtain ⟨K, l, lv, e0, hm, hK⟩ := trod_Lin (c0 := d0) (c1 := d1) ((hg 0 _ rfl).trans (List.getElem?_eq_getElem (by omega : 0 < xs.length)))
  obtain ⟨b, e1, _⟩ := DataW.trod_bool Tryd.underlying4 ((hg 1 _ rfl).trans (List.getElem?_eq_getElem (by omega : 1 < xs.length)))
  have e1' : [d2] = [.bool b] := e1
  simp only [List.cons.injEq, and_true] at e1'
  obtain ⟨e2, e3⟩ : d0 = .int .i64 K ∧ d1 = lv := by injection e0 with e0; injection e0 with e0; injection e0 with e2 e0; injection e0 with e3 e0; exact ⟨e2, e3⟩
  subst e2 e3
  subst e1'
  exact ⟨(K, l, b), _, rfl, ⟨hm.1, hm.2.1, hm.2.2.2⟩, hK⟩

set_option maxRecDepth 100000 in
theorem open_Con {H : Type} {enc : TypeId × Value → H} {w : World} {base : Nat} {spare : Nat → Bool} {held : Bool} {r : Reach} {b0 : Nat} {v : Value} {d : DataW H} {p : List MemPlace}
    (hv : Value.okWide Tryd.prog w r b0 26 v) (h : DataW.Trod enc Tryd.prog w base spare held 26 v d p) : ∃ c, ConArg w v c := by
  obtain ⟨cs, rfl, hsz⟩ := okWide_struct Tryd.underlying26 hv
  obtain ⟨l⟩ := cs
  match l, hsz.trans cellsCon with
  | [d0, d1, d2], _ =>
    obtain ⟨fuel, hf⟩ := h
    exact trod_Con hf
end Go.Proofs.YtahlecmlhdikjaaDoor
end

section
namespace Go.Proofs.YtahlecmlhdikjaaDoor
set_option linter.unusedSimpArgs false
open Go.ChangeShapes Go.WideShapes Go.ChangeAt Go.RowKit
set_option linter.unusedVariables false
set_option maxRecDepth 100000

theorem ret_bi {k : IntKind} {a c : Bool} {b d : Int} (h : a = c) (g : b = d) : Ending.returned (.tuple #[.bool a, .int k b]) = .returned (.tuple #[.bool c, .int k d]) := by rw [h, g]
theorem con_Validate (K : Int) (v : Value) (l : List Mono) (b : Bool) (w : World) (hv : MonosAt w v l) :
    Calls Tryd.prog 18 #[.agg #[.int .i64 K, v, .bool b]] w fun e w' => e = .returned (.int .i64 (errOf (okL l))) ∧ Up w w' := by
  have HV := Lib.hid hv
  obtain ⟨a, cap, rfl⟩ := hv.slice
  obtain ⟨n, hn⟩ : ∃ n, l.length = n := ⟨_, rfl⟩
  rw [hn] at HV ⊢
  clear hv hn
  go_enter Tryd.func18, Tryd.ntmps18
  go_wp2_with fail
  refine (lin_Validate K _ l _ (HV.out.up ((Up.refl w).alloc _))).mono ?_
  rintro e x ⟨rfl, hx⟩
  have HU := Lib.hid (((Up.refl w).alloc _).trans hx)
  clear hx
  go_wp2
  go_ret
  exact ⟨rfl, HU.out⟩

def HoldsR (w : World) (r : Bool × Int) (e : Ending) (w' : World) : Prop := e = .returned (.tuple #[.bool r.1, .int .i64 r.2]) ∧ Up w w'
set_option maxHeartbeats 2000000 in
theorem con_Holds (K : Int) (v ev : Value) (l env : List Mono) (b : Bool) (w : World) (hv : MonosAt w v l) (he : MonosAt w ev env) (hK : In64 K) (hl : Rng l) (hen : Rng env) (hlen : l.length ≤ 1000) :
    Calls Tryd.prog 31 #[.agg #[.int .i64 K, v, .bool b], ev] w (HoldsR w (holdsF (K, l, b) env)) := by
  obtain ⟨r, hr⟩ : ∃ r, holdsF (K, l, b) env = r := ⟨_, rfl⟩
  rw [hr]
  have HV := Lib.hid hv
  have HE := Lib.hid he
  obtain ⟨a, cap, rfl⟩ := hv.slice
  obtain ⟨a', cap', rfl⟩ := he.slice
  obtain ⟨n, hn⟩ : ∃ n, l.length = n := ⟨_, rfl⟩
  obtain ⟨n', hn'⟩ : ∃ n', env.length = n' := ⟨_, rfl⟩
  rw [hn] at HV ⊢
  rw [hn'] at HE ⊢
  obtain ⟨q, hq⟩ : ∃ q, evalF K l env = q := ⟨_, rfl⟩
  have HEV : Hid (∀ w, MonosAt w (.slice a n cap) l → MonosAt w (.slice a' n' cap') env → Calls Tryd.prog 60 #[.agg #[.int .i64 K, .slice a n cap], .slice a' n' cap'] w fun e w' => e = .returned (.tuple #[.int .i64 q.1, .int .i64 q.2]) ∧ Up w w') := Lib.hid fun w h h' => by
    have := lin_Eval K _ _ l env w h h' hK hl hen hlen
    rw [hq] at this; exact this
  have HR : Hid ((if q.2 ≠ 0 then (false, q.2) else (holdsB q.1 b, 0)) = r) := Lib.hid (by rw [← hr]; unfold holdsF; dsimp only; rw [hq])
  obtain ⟨q1, q2⟩ := q
  dsimp only at HR HEV
  clear hr hq hv he hK hl hen hlen hn hn'
  go_enter Tryd.func31, Tryd.ntmps31
  go_wp2_with fail
  refine (HEV.out _ (HV.out.up ((Up.refl w).alloc _)) (HE.out.up ((Up.refl w).alloc _))).mono ?_
  rintro e x ⟨rfl, hx⟩
  have hs := hx.size
  rw [size_alloc] at hs
  have b1 : x.cell? ⟨w.heap.size, 2, none⟩ = some (.bool b) := (hx.cell _ _ (by rw [size_alloc]; omega)).trans (by go_simp)
  have HU := Lib.hid (((Up.refl w).alloc _).trans hx)
  clear hx hs
  by_cases h2 : q2 = 0
  · subst h2
    have HG : Hid (r = (holdsB q1 b, 0)) := Lib.hid (by rw [← HR.out]; simp)
    by_cases h1 : q1 = 0
    · subst h1
      go_wp2
      go_ret2
      exact ⟨ret_bi (by rw [HG.out]; rfl) (by rw [HG.out]), HU.out⟩
    · have h1' : (q1 == 0) = false := by simpa using h1
      by_cases h3 : 0 < q1
      · have HB : Hid (holdsB q1 b = !b) := Lib.hid (by unfold holdsB; simp [h1, h3])
        go_wp2
        go_ret2
        exact ⟨ret_bi (by rw [HG.out]; exact HB.out.symm) (by rw [HG.out]), HU.out⟩
      · have HB : Hid (holdsB q1 b = false) := Lib.hid (by unfold holdsB; simp [h1, h3])
        go_wp2
        go_ret2
        exact ⟨ret_bi (by rw [HG.out]; exact HB.out.symm) (by rw [HG.out]), HU.out⟩
  · have h2' : (q2 == 0) = false := by simpa using h2
    have HG : Hid (r = (false, q2)) := Lib.hid (by rw [← HR.out]; simp [h2])
    go_wp2
    go_ret2
    exact ⟨ret_bi (by rw [HG.out]) (by rw [HG.out]), HU.out⟩

set_option maxHeartbeats 4000000 in
theorem con_FirstViolated (v ev : Value) (cs : List Con) (env : List Mono) (w : World) (hv : ConsAt w v cs) (he : MonosAt w ev env) (hen : Rng env) (hlen : ∀ c ∈ cs, c.2.1.length ≤ 1000) :
    Calls Tryd.prog 33 #[v, ev] w fun e w' => e = .returned (.tuple #[.int .i64 (firstF env cs 0).1, .int .i64 (firstF env cs 0).2]) ∧ Up w w' := by
  obtain ⟨r, hr⟩ : ∃ r, firstF env cs 0 = r := ⟨_, rfl⟩
  rw [hr]
  have HV := Lib.hid hv
  have HE := Lib.hid he
  obtain ⟨⟨a, cap, rfl⟩, hmax⟩ := hv.slice
  obtain ⟨a', cap', rfl⟩ := he.slice
  obtain ⟨n, hn⟩ : ∃ n, cs.length = n := ⟨_, rfl⟩
  obtain ⟨n', hn'⟩ : ∃ n', env.length = n' := ⟨_, rfl⟩
  rw [hn] at hmax ⊢
  rw [hn'] at HE ⊢
  have hmI : (n : Int) ≤ 9223372036854775807 := by omega
  have HN := Lib.hid hn
  have HRR := Lib.hid hr
  have HL := Lib.hid hlen
  have HEN := Lib.hid hen
  clear hn hn' hr hv he hlen hen
  go_enter Tryd.func33, Tryd.ntmps33
  go_wp2
  go_loopw [12] (fun iv wr => ∃ (i : Nat), i ≤ n ∧ iv = .int .i64 i ∧ firstF env (cs.drop i) i = r ∧ Up w wr) (fun iv _ => n - (intOf iv).toNat)
  case atStart => exact ⟨0, by omega, rfl, by rw [List.drop_zero]; exact HRR.out, Up.refl w⟩
  case round =>
    rename World => wr
    obtain ⟨i, hi, rfl, hf, hU⟩ := hrel
    have HU := Lib.hid hU
    by_cases hlt : i < n
    · have hltI : (i : Int) < n := by omega
      obtain ⟨bl, off, lv, K, l, b, ha, hbl, hg, k0, k1, k2, hp, hKr⟩ := HV.out.elem HU.out i (by rw [HN.out]; exact hlt) HN.out (by rw [HN.out])
      subst ha
      have hd : cs.drop i = (K, l, b) :: cs.drop (i + 1) := by
        have := List.drop_eq_getElem_cons (l := cs) (i := i) (by rw [HN.out]; exact hlt)
        rw [this]
        congr 1
        rw [List.getD_eq_getElem?_getD, List.getElem?_eq_getElem (by rw [HN.out]; exact hlt)] at hg
        exact hg
      rw [hd] at hf
      have hm : (K, l, b) ∈ cs := List.mem_of_mem_drop (i := i) (by rw [hd]; exact List.mem_cons_self)
      have hl1 := HL.out _ hm
      obtain ⟨q, hq⟩ : ∃ q, holdsF (K, l, b) env = q := ⟨_, rfl⟩
      have HP := Lib.hid hp
      obtain ⟨al, capl, rfl⟩ := hp.1.slice
      obtain ⟨nl, hnl⟩ : ∃ n, l.length = n := ⟨_, rfl⟩
      rw [hnl] at HP k1
      have HH : Hid (∀ w, MonosAt w (.slice al nl capl) l → MonosAt w (.slice a' n' cap') env → Calls Tryd.prog 31 #[.agg #[.int .i64 K, .slice al nl capl, .bool b], .slice a' n' cap'] w (HoldsR w q)) := Lib.hid fun w h h' => by
        rw [← hq]; exact con_Holds K _ _ l env b w h h' hKr hp.2.1 HEN.out hl1
      have HF : Hid ((if q.2 ≠ 0 ∨ q.1 = false then ((i : Int), q.2) else firstF env (cs.drop (i + 1)) ((i : Int) + 1)) = r) := Lib.hid (by rw [← hf, firstF_cons, hq])
      obtain ⟨q1, q2⟩ := q
      dsimp only at HF
      clear hf hd hm hg hp hq hnl hl1 hU
      go_wp2_with fail
      refine (HH.out _ (HP.out.1.up ((Up.refl wr).alloc _)) (HE.out.up (HU.out.trans ((Up.refl wr).alloc _)))).mono ?_
      rintro e x ⟨rfl, hx⟩
      have HU2 := Lib.hid (HU.out.trans (((Up.refl wr).alloc _).trans hx))
      clear hx HH
      by_cases h2 : q2 = 0
      · subst h2
        cases q1
        · have HG : Hid (r = ((i : Int), 0)) := Lib.hid (by rw [← HF.out]; simp)
          go_wp2
          go_ret2
          exact ⟨ret_ii (by rw [HG.out]) (by rw [HG.out]), HU2.out⟩
        · have HG : Hid (firstF env (cs.drop (i + 1)) ((i : Int) + 1) = r) := Lib.hid (by rw [← HF.out]; simp)
          go_wp2
          go_roundw
          case rel => exact ⟨i + 1, by omega, by go_num, HG.out, HU2.out⟩
          case measure => simp [intOf]; omega
      · have h2' : (q2 == 0) = false := by simpa using h2
        have HG : Hid (r = ((i : Int), q2)) := Lib.hid (by rw [← HF.out]; simp [h2])
        go_wp2
        go_ret2
        exact ⟨ret_ii (by rw [HG.out]) (by rw [HG.out]), HU2.out⟩
    · obtain rfl : i = n := by omega
      have HG : Hid (r = ((i : Int), 0)) := Lib.hid (by rw [← hf, List.drop_eq_nil_of_le (by rw [HN.out]; omega)]; rfl)
      go_wp2
      go_ret2
      exact ⟨ret_ii (by rw [HG.out]) (by rw [HG.out]), HU.out⟩
end Go.Proofs.YtahlecmlhdikjaaDoor
end

section
namespace Go.Proofs.YtahlecmlhdikjaaDoor
set_option linter.unusedSimpArgs false
open Go.ChangeShapes Go.WideShapes Go.ChangeAt Go.RowKit
set_option linter.unusedVariables false
set_option maxRecDepth 100000

def gcdA : List Mono → Int → Int
  | [], g => g
  | m :: r, g => gcdA r (Int.gcd g (mag m.2) : Int)
theorem gcdA_eq (l : List Mono) : gcdA l 0 = (gcdL l : Int) := by
  have key : ∀ (l : List Mono) (g : Nat), gcdA l g = ((l.foldl (fun g m => Nat.gcd g m.2.natAbs) g : Nat) : Int) := by
    intro l
    induction l with
    | nil => exact fun g => rfl
    | cons m r ih =>
      intro g
      rw [List.foldl_cons, ← ih]
      show gcdA r (Int.gcd g (mag m.2) : Int) = _
      congr 2
      have : (mag m.2).natAbs = m.2.natAbs := by unfold mag; split <;> omega
      unfold Int.gcd
      rw [this]; rfl
  exact key l 0
theorem gcdStep (x y : Int) (hx : 0 ≤ x) (hy : 0 ≤ y) : Int.gcd y (x % y) = Int.gcd x y := by
  obtain ⟨a, rfl⟩ := Int.eq_ofNat_of_zero_le hx
  obtain ⟨b, rfl⟩ := Int.eq_ofNat_of_zero_le hy
  show Nat.gcd b (a % b) = Nat.gcd a b
  rw [Nat.gcd_comm b, Nat.gcd_comm a b]
  exact (Nat.gcd_rec b a).symm

set_option maxHeartbeats 8000000 in
theorem con_gcd (v : Value) (l : List Mono) (w : World) (hv : MonosAt w v l) (hl : Rng l) :
    Calls Tryd.prog 36 #[v] w fun e w' => e = .returned (.int .u64 (gcdL l)) ∧ Up w w' := by
  have hmax := hv.max
  obtain ⟨a, cap, rfl⟩ := hv.slice
  obtain ⟨R, hR⟩ : ∃ R, gcdA l 0 = R := ⟨_, rfl⟩
  rw [← gcdA_eq, hR]
  obtain ⟨n, hn⟩ : ∃ n, l.length = n := ⟨_, rfl⟩
  rw [hn] at hv hmax ⊢
  have HN := Lib.hid hn
  have HR := Lib.hid hR
  have HV := Lib.hid hv
  have HL := Lib.hid hl
  clear hR hn hv hl
  go_enter Tryd.func36, Tryd.ntmps36
  go_wp2
  go_loopw [3, 9] (fun gv iv wr => ∃ (k : Nat) (g : Int), k ≤ n ∧ iv = .int .i64 k ∧ gv = .int .u64 g ∧ (0 ≤ g ∧ g < 18446744073709551616) ∧ Up w wr ∧ gcdA (l.drop k) g = R) (fun _ iv _ => n - (intOf iv).toNat)
  case atStart => exact ⟨0, 0, by omega, rfl, rfl, by omega, Up.refl _, by rw [List.drop_zero]; exact HR.out⟩
  case round =>
    rename World => wo
    obtain ⟨k, g, hk, rfl, rfl, ⟨g0, g1⟩, hU, hP⟩ := hrel
    have HP := Lib.hid hP
    clear hP
    by_cases hlt : k < n
    · have hlt2 : (k : Int) < (n : Int) := by omega
      have hk0 : (0 : Int) ≤ (k : Int) := by omega
      obtain ⟨bl, off, s, b, rfl, p1, p2, p3, p4⟩ := HV.out.elem hU k (by rw [HN.out]; exact hlt) HN.out rfl
      obtain ⟨h1, h2⟩ : In64 b := by
        have := HL.out k (by rw [HN.out]; exact hlt)
        rw [p2] at this; exact this
      have HP2 : Hid (gcdA (l.drop (k + 1)) (Int.gcd g (mag b) : Int) = R) := Lib.hid (by
        rw [← HP.out, drop_mono (by rw [HN.out]; exact hlt) p2]; rfl)
      obtain ⟨m0, m1, _⟩ := mag_range b ⟨h1, h2⟩
      have HMB : Hid ((b < 0 → IntKind.u64.wrap (-(IntKind.u64.wrap b)) = mag b) ∧ (¬ b < 0 → b = mag b)) := Lib.hid ⟨fun h => by rw [mag, if_pos h]; exact wrap_u64_neg b h1 h, fun h => by rw [mag, if_neg h]⟩
      obtain ⟨mb, hmb⟩ : ∃ m, mag b = m := ⟨_, rfl⟩
      rw [hmb] at m0 m1 HP2 HMB
      have HU := Lib.hid hU
      have hbl : bl < wo.heap.size := by have := hU.size; omega
      clear p2 HP hmb hU
      have HIN : Hid True := Lib.hid trivial
      by_cases hneg : b < 0
      · have hng : b < 0 := hneg
        go_wp2
        obtain ⟨W4, hW4⟩ : ∃ W4, wo.alloc (.cells #[.string s, .int .i64 b] 56) = W4 := ⟨_, rfl⟩
        have HU4 : Hid (Up w W4) := Lib.hid (hW4 ▸ HU.out.alloc _)
        rw [hW4]
        clear hW4
        go_loopw [3, 6] (fun av bv wr => ∃ x y : Int, av = .int .u64 x ∧ bv = .int .u64 y ∧ (0 ≤ x ∧ x < 18446744073709551616) ∧ (0 ≤ y ∧ y < 18446744073709551616) ∧ Int.gcd x y = Int.gcd g mb ∧ Up w wr) (fun _ bv _ => (intOf bv).toNat)
        case atStart => exact ⟨g, mb, rfl, congrArg (Value.int .u64) (HMB.out.1 hneg), ⟨g0, g1⟩, ⟨m0, m1⟩, rfl, HU4.out⟩
        case round =>
          rename World => wr
          obtain ⟨x, y, rfl, rfl, ⟨x0, x1⟩, ⟨y0, y1⟩, hG, hUr⟩ := hrel
          have HG := Lib.hid hG
          have HUr := Lib.hid hUr
          clear hG hUr hneg
          by_cases hy : y = 0
          · subst hy
            have HX : Hid ((Int.gcd g mb : Int) = x) := Lib.hid (by rw [← HG.out, Int.gcd_zero_right]; omega)
            go_wp2
            go_roundw
            case rel => exact ⟨k + 1, x, by omega, by go_num, rfl, ⟨x0, x1⟩, HUr.out, by rw [← HX.out]; exact HP2.out⟩
            case measure => simp [intOf]; omega
          · have hy2 : (y != 0) = true := by simpa using hy
            have hy3 : (y == 0) = false := by simpa using hy
            have z0 : 0 ≤ x % y := Int.emod_nonneg _ hy
            have z1 : x % y < y := Int.emod_lt_of_pos _ (by omega)
            have HG2 : Hid (Int.gcd y (x % y) = Int.gcd g mb) := Lib.hid (by rw [gcdStep x y x0 y0]; exact HG.out)
            have hemod : x.tmod y = x % y := Int.tmod_eq_emod_of_nonneg x0
            go_wp2_with fail
            refine wp_region_ext (by kernel_rfl) (by kernel_rfl) ?_
            repeat (go_big_quiet_step (fail))
            refine wpQuiet_nil ?_
            intro x5 hx5
            go_wp2
            go_roundw
            case rel => exact ⟨y, x % y, rfl, rfl, ⟨y0, y1⟩, ⟨z0, by omega⟩, HG2.out, HUr.out.trans hx5⟩
            case measure => simp [intOf]; omega
      · have hng : ¬ b < 0 := hneg
        go_wp2
        obtain ⟨W4, hW4⟩ : ∃ W4, wo.alloc (.cells #[.string s, .int .i64 b] 56) = W4 := ⟨_, rfl⟩
        have HU4 : Hid (Up w W4) := Lib.hid (hW4 ▸ HU.out.alloc _)
        rw [hW4]
        clear hW4
        go_loopw [3, 6] (fun av bv wr => ∃ x y : Int, av = .int .u64 x ∧ bv = .int .u64 y ∧ (0 ≤ x ∧ x < 18446744073709551616) ∧ (0 ≤ y ∧ y < 18446744073709551616) ∧ Int.gcd x y = Int.gcd g mb ∧ Up w wr) (fun _ bv _ => (intOf bv).toNat)
        case atStart => exact ⟨g, mb, rfl, congrArg (Value.int .u64) (HMB.out.2 hneg), ⟨g0, g1⟩, ⟨m0, m1⟩, rfl, HU4.out⟩
        case round =>
          rename World => wr
          obtain ⟨x, y, rfl, rfl, ⟨x0, x1⟩, ⟨y0, y1⟩, hG, hUr⟩ := hrel
          have HG := Lib.hid hG
          have HUr := Lib.hid hUr
          clear hG hUr hneg
          by_cases hy : y = 0
          · subst hy
            have HX : Hid ((Int.gcd g mb : Int) = x) := Lib.hid (by rw [← HG.out, Int.gcd_zero_right]; omega)
            go_wp2
            go_roundw
            case rel => exact ⟨k + 1, x, by omega, by go_num, rfl, ⟨x0, x1⟩, HUr.out, by rw [← HX.out]; exact HP2.out⟩
            case measure => simp [intOf]; omega
          · have hy2 : (y != 0) = true := by simpa using hy
            have hy3 : (y == 0) = false := by simpa using hy
            have z0 : 0 ≤ x % y := Int.emod_nonneg _ hy
            have z1 : x % y < y := Int.emod_lt_of_pos _ (by omega)
            have HG2 : Hid (Int.gcd y (x % y) = Int.gcd g mb) := Lib.hid (by rw [gcdStep x y x0 y0]; exact HG.out)
            have hemod : x.tmod y = x % y := Int.tmod_eq_emod_of_nonneg x0
            go_wp2_with fail
            refine wp_region_ext (by kernel_rfl) (by kernel_rfl) ?_
            repeat (go_big_quiet_step (fail))
            refine wpQuiet_nil ?_
            intro x5 hx5
            go_wp2
            go_roundw
            case rel => exact ⟨y, x % y, rfl, rfl, ⟨y0, y1⟩, ⟨z0, by omega⟩, HG2.out, HUr.out.trans hx5⟩
            case measure => simp [intOf]; omega
    · have hlt2 : (n : Int) ≤ (k : Int) := by omega
      have HRE : Hid (R = g) := Lib.hid (by
        rw [← HP.out, List.drop_eq_nil_of_le (by rw [HN.out]; omega)]; rfl)
      go_wp2
      go_ret
      exact ⟨ret_int (by rw [HRE.out]), hU⟩

theorem con_floorDiv (n d : Int) (h : In64 n) (hd : 0 < d) (hd' : d ≤ 9223372036854775807) (w : World) :
    Calls Tryd.prog 62 #[.int .i64 n, .int .i64 d] w fun e w' => e = .returned (.int .i64 (n / d)) ∧ Up w w' := by
  obtain ⟨h0, h1⟩ := h
  have hdn : (d == 0) = false := by simp; omega
  have hdm : ¬ d = 0 := by omega
  obtain ⟨q, hq⟩ : ∃ q, n.tdiv d = q := ⟨_, rfl⟩
  obtain ⟨t, ht⟩ : ∃ t, n.tmod d = t := ⟨_, rfl⟩
  have e1 : n = d * q + t := by rw [← hq, ← ht]; exact (Int.mul_tdiv_add_tmod n d).symm
  have e2 : -d < t ∧ t < d := by
    rw [← ht]
    exact ⟨by have := Int.lt_tmod_of_pos n hd; omega, Int.tmod_lt_of_pos n hd⟩
  have e3 : (0 ≤ n → 0 ≤ t) ∧ (n ≤ 0 → t ≤ 0) := by
    rw [← ht]
    exact ⟨fun g => Int.tmod_nonneg d g, fun g => by have := Int.tmod_nonneg d (a := -n) (by omega); rw [Int.neg_tmod] at this; omega⟩
  have e4 : -9223372036854775808 ≤ q ∧ q ≤ 9223372036854775807 := by
    rw [← hq]
    have k1 := Int.natAbs_tdiv_le_natAbs n d
    constructor
    · omega
    · by_cases g : 0 ≤ n
      · have := Int.tdiv_le_self d g; omega
      · have k2 : n.tdiv d ≤ 0 := by
          have k3 := Int.tdiv_nonneg (a := -n) (b := d) (by omega) (by omega)
          rw [Int.neg_tdiv] at k3; omega
        omega
  obtain ⟨q0, q1⟩ := e4
  by_cases hn : t < 0
  · have HF : Hid (n / d = q - 1) := Lib.hid (by
      rw [e1]
      have : d * q + t = (d + t) + d * (q - 1) := by rw [Int.mul_sub]; omega
      rw [this, Int.add_mul_ediv_left _ _ hdm, Int.ediv_eq_zero_of_lt (by omega) (by omega)]; omega)
    have q2 : -9223372036854775808 ≤ q - 1 := by
      have : n / d ≥ n := by
        have := HF.out
        have k : n * d ≤ n := by
          have : n * d ≤ n * 1 := Int.mul_le_mul_of_nonpos_left (by omega) (by omega)
          omega
        exact (Int.le_ediv_iff_mul_le hd).2 k
      rw [HF.out] at this; omega
    clear e1 e2 e3
    go_enter Tryd.func62, Tryd.ntmps62
    go_wp2
    go_ret
    exact ⟨ret_int (by rw [HF.out]), Up.refl w⟩
  · have HF : Hid (n / d = q) := Lib.hid (by
      rw [e1, Int.add_comm, Int.add_mul_ediv_left _ _ hdm, Int.ediv_eq_zero_of_lt (by omega) (by omega)]; omega)
    clear e1 e2 e3
    go_enter Tryd.func62, Tryd.ntmps62
    go_wp2
    go_ret
    exact ⟨ret_int (by rw [HF.out]), Up.refl w⟩
theorem con_multiple (n : Int) (g : Nat) (h : In64 n) (hg : 0 < g) (hg' : g ≤ 9223372036854775808) (w : World) :
    Calls Tryd.prog 37 #[.int .i64 n, .int .u64 g] w fun e w' => e = .returned (.bool (decide (n % (g : Int) = 0))) ∧ Up w w' := by
  obtain ⟨h0, h1⟩ := h
  obtain ⟨m0, m1, _⟩ := mag_range n ⟨h0, h1⟩
  obtain ⟨G, hG⟩ : ∃ G : Int, (g : Int) = G := ⟨_, rfl⟩
  rw [hG]
  have G0 : 0 < G := by omega
  have G1 : G ≤ 9223372036854775808 := by omega
  clear hG hg hg'
  have hGn : (G == 0) = false := by simp; omega
  have hGm : ¬ G = 0 := by omega
  have HMB : Hid ((n < 0 → IntKind.u64.wrap (-(IntKind.u64.wrap n)) = mag n) ∧ (¬ n < 0 → n = mag n)) := Lib.hid ⟨fun h => by rw [mag, if_pos h]; exact wrap_u64_neg n h0 h, fun h => by rw [mag, if_neg h]⟩
  have HD : Hid (decide (n % G = 0) = decide (mag n % G = 0)) := Lib.hid (by
    congr 1
    unfold mag
    split
    · rw [← Int.dvd_iff_emod_eq_zero, ← Int.dvd_iff_emod_eq_zero, Int.dvd_neg]
    · rfl)
  rw [HD.out]
  obtain ⟨m, hm⟩ : ∃ m, mag n = m := ⟨_, rfl⟩
  rw [hm] at m0 m1 HMB ⊢
  have hemod : m.tmod G = m % G := Int.tmod_eq_emod_of_nonneg m0
  have z0 : 0 ≤ m % G := Int.emod_nonneg _ hGm
  have z1 : m % G < G := Int.emod_lt_of_pos _ G0
  obtain ⟨z, hz⟩ : ∃ z, m % G = z := ⟨_, rfl⟩
  rw [hz] at hemod z0 z1 ⊢
  clear hm hz HD
  by_cases hn : n < 0
  · have hw := HMB.out.1 hn
    clear HMB
    go_enter Tryd.func37, Tryd.ntmps37
    go_wp2
    go_ret
    exact ⟨by first | rfl | simp, Up.refl w⟩
  · obtain rfl := HMB.out.2 hn
    clear HMB
    go_enter Tryd.func37, Tryd.ntmps37
    go_wp2
    go_ret
    exact ⟨by first | rfl | simp, Up.refl w⟩
def TruthR (w : World) (c : Con) (k : Int) (e : Ending) (w' : World) : Prop := e = .returned (.tuple #[conV c (.slice none 0 0), .int .i64 k, .int .i64 0]) ∧ Up w w'
theorem con_truth (b : Bool) (w : World) : Calls Tryd.prog 35 #[.bool b] w (TruthR w (if b then c0 else (-1, [], false)) (if b then 1 else 2)) := by
  cases b
  · go_enter Tryd.func35, Tryd.ntmps35
    go_wp2
    refine bodyPost_ret (v := .tuple #[conV (-1, [], false) (.slice none 0 0), .int .i64 2, .int .i64 0]) (by simp [results, Tryd.results35, go_sem, conV]) rfl ?_
    exact ⟨rfl, (Up.refl w).alloc _⟩
  · go_enter Tryd.func35, Tryd.ntmps35
    go_wp2
    refine bodyPost_ret (v := .tuple #[conV c0 (.slice none 0 0), .int .i64 1, .int .i64 0]) (by simp [results, Tryd.results35, go_sem, conV]) rfl ?_
    exact ⟨rfl, (Up.refl w).alloc _⟩
end Go.Proofs.YtahlecmlhdikjaaDoor
end

section
namespace Go.Proofs.YtahlecmlhdikjaaDoor
set_option linter.unusedSimpArgs false
open Go.ChangeShapes Go.WideShapes Go.ChangeAt Go.RowKit
set_option linter.unusedVariables false
set_option maxRecDepth 100000

theorem negL_snoc (l : List Mono) (m : Mono) : negL (l ++ [m]) = negL l ++ [(m.1, -m.2)] := by simp [negL]
theorem negFit_snoc (l : List Mono) (m : Mono) : negFit (l ++ [m]) = (negFit l && decide (m.2 ≠ -9223372036854775808)) := by simp [negFit]
def oppF (K : Int) (l : List Mono) : Int × List Mono × Int := if negFit l then (-1 - K, negL l, 0) else (0, [], 3)

set_option maxHeartbeats 4000000 in
theorem con_opposite (K : Int) (v : Value) (l : List Mono) (w : World) (hv : MonosAt w v l) (hK : In64 K) (hl : Rng l) (hlen : l.length ≤ 1000) :
    Calls Tryd.prog 47 #[.agg #[.int .i64 K, v]] w fun e w' => LinErr e w' (oppF K l) ∧ Up w w' := by
  obtain ⟨i0, hi0, hz0, hz1, hz2⟩ := info_parts mono_info
  obtain ⟨a, cap, rfl⟩ := hv.slice
  obtain ⟨n, hn⟩ : ∃ n, l.length = n := ⟨_, rfl⟩
  rw [hn] at hv hlen ⊢
  have hnI : (n : Int) ≤ 1000 := by omega
  have HV := Lib.hid hv
  have HN := Lib.hid hn
  have HL := Lib.hid hl
  obtain ⟨r, hr⟩ : ∃ r, oppF K l = r := ⟨_, rfl⟩
  rw [hr]
  have HR := Lib.hid hr
  obtain ⟨k0, k1⟩ := hK
  obtain ⟨Ko, hKo⟩ : ∃ x, -1 - K = x := ⟨_, rfl⟩
  have HKO := Lib.hid hKo
  have g0 : -9223372036854775808 ≤ Ko := by omega
  have g1 : Ko ≤ 9223372036854775807 := by omega
  clear hv hn hl hr
  go_enter Tryd.func47, Tryd.ntmps47
  go_wp2
  have c0 : ((w.alloc (.cells #[.int .i64 K, .slice a n cap] 24)).alloc (.cells #[.int .i64 0, .slice none 0 0] 24)).cell? ⟨w.heap.size + 1, 0, none⟩ = some (.int .i64 0) := by go_simp
  have c1 : ((w.alloc (.cells #[.int .i64 K, .slice a n cap] 24)).alloc (.cells #[.int .i64 0, .slice none 0 0] 24)).cell? ⟨w.heap.size + 1, 1, none⟩ = some (.slice none 0 0) := by go_simp
  have cf : ∀ o, ((w.alloc (.cells #[.int .i64 K, .slice a n cap] 24)).alloc (.cells #[.int .i64 0, .slice none 0 0] 24)).frozen? ⟨w.heap.size + 1, o, none⟩ = false := fun o => by go_simp
  obtain ⟨x1, hx1⟩ : ∃ x, (w.alloc (.cells #[.int .i64 K, .slice a n cap] 24)).alloc (.cells #[.int .i64 0, .slice none 0 0] 24) = x := ⟨_, rfl⟩
  rw [hx1] at c0 c1 cf ⊢
  have HU1 : Hid (Up w x1) := Lib.hid (hx1 ▸ ((Up.refl w).alloc _).alloc _)
  obtain ⟨O, hO⟩ : ∃ O, w.heap.size + 1 + 1 = O := ⟨_, rfl⟩
  have hO1 : x1.heap.size = O := by rw [← hx1, size_alloc, size_alloc, hO]
  have q1 : w.heap.size + 1 < x1.heap.size := by omega
  have hset : ∀ (x : World) (v : Value) (o : Nat), Up w x → Up w (x.setCell ⟨w.heap.size + 1, o, none⟩ v) := fun x v o u => u.setCell (by show w.heap.size ≤ w.heap.size + 1; omega) v
  have HSET := Lib.hid hset
  clear hset hx1
  obtain ⟨W3, hW3⟩ : ∃ W, x1.alloc (.cells #[.int .i64 Ko, .slice none 0 0] 24) = W := ⟨_, rfl⟩
  have hO3 : OutAt W3 (O + 1) O Ko [] 0 none 0 := by
    refine ⟨rfl, ?_, World.ownsRow_nil _ _ _ _, by omega, ?_⟩
    · rw [← hW3, ← hO1]; exact heap_alloc_new x1 _
    · rw [← hW3, size_alloc, hO1]; omega
  have HU3 : Hid (Up w W3) := Lib.hid (hW3 ▸ HU1.out.alloc _)
  have e0 : W3.cell? ⟨w.heap.size + 1, 0, none⟩ = some (.int .i64 0) := by
    rw [← hW3]; exact ((((Up.refl x1).alloc _).cell _ _ q1).trans c0)
  have e1 : W3.cell? ⟨w.heap.size + 1, 1, none⟩ = some (.slice none 0 0) := by
    rw [← hW3]; exact ((((Up.refl x1).alloc _).cell _ _ q1).trans c1)
  have ef : ∀ o, W3.frozen? ⟨w.heap.size + 1, o, none⟩ = false := fun o => by
    rw [← hW3]; exact ((((Up.refl x1).alloc _).frozen _ _ q1).trans (cf o))
  have hs3 : W3.heap.size = O + 1 := by rw [← hW3, size_alloc, hO1]
  have q2 : w.heap.size + 1 < O := by omega
  rw [hW3]
  try rw [hO]
  have HO3 := Lib.hid hO3
  have HE0 := Lib.hid e0
  have HE1 := Lib.hid e1
  have HEF := Lib.hid ef
  clear hO hO1 hW3 c0 c1 cf hO3 e0 e1 ef HU1 q1
  go_loopw [14] (fun i wr => ∃ (k : Nat) (va : Option Addr) (vc : Nat), k ≤ n ∧ i = .int .i64 k ∧ negFit (l.take k) = true ∧ OutAt wr (O + 1) O Ko (negL (l.take k)) k va vc ∧ UpRow (O + 1) O W3 wr) (fun i _ => n - (intOf i).toNat)
  case atStart => exact ⟨0, none, 0, by omega, rfl, by simp [negFit], HO3.out, UpRow.refl _ _ _⟩
  case round =>
    rename World => wr
    obtain ⟨k, va, vc, hk, rfl, hfit, hOut, hRow⟩ := hrel
    have hU := UpRow.up HU3.out (by omega : w.heap.size ≤ O) (by omega) hRow
    obtain ⟨o0, o1, of, ol⟩ := hOut.cells
    have HOut := Lib.hid hOut
    have HRow := Lib.hid hRow
    have HFK := Lib.hid hfit
    have c0 : wr.cell? ⟨w.heap.size + 1, 0, none⟩ = some (.int .i64 0) := (HRow.out.cell _ _ (by omega) (by omega)).trans HE0.out
    have c1 : wr.cell? ⟨w.heap.size + 1, 1, none⟩ = some (.slice none 0 0) := (HRow.out.cell _ _ (by omega) (by omega)).trans HE1.out
    have cf : ∀ o, wr.frozen? ⟨w.heap.size + 1, o, none⟩ = false := fun o => by
      have h1 := HRow.out.block (w.heap.size + 1) (by omega) (by omega)
      have h2 := HEF.out o
      unfold World.frozen? at h2 ⊢
      rw [h1]; exact h2
    clear hOut hRow hfit
    by_cases hlt : k < n
    · have hlt2 : (k : Int) < (n : Int) := by omega
      have hk0 : (0 : Int) ≤ (k : Int) := by omega
      obtain ⟨bl, off, s, b, rfl, p1, p2, p3, p4⟩ := HV.out.elem hU k (by rw [HN.out]; exact hlt) HN.out rfl
      obtain ⟨b0, b1⟩ : In64 b := by
        have := HL.out k (by rw [HN.out]; exact hlt)
        rw [p2] at this; exact this
      have htk := take_snoc (by rw [HN.out]; exact hlt) p2
      have HT := Lib.hid htk
      have HMEM : Hid ((s, b) ∈ l) := Lib.hid (by
        have h9 : k < l.length := by rw [HN.out]; exact hlt
        rw [List.getD_eq_getElem?_getD, List.getElem?_eq_getElem h9] at p2
        exact p2 ▸ List.getElem_mem h9)
      have q5 : bl < wr.heap.size := by have := hU.size; omega
      have q6 : O < wr.heap.size := ol
      have q9 : w.heap.size + 1 < wr.heap.size := by omega
      clear p2 htk
      by_cases hmin : b = -9223372036854775808
      · subst hmin
        have HG : Hid (r = (0, [], 3)) := Lib.hid (by
          rw [← HR.out]; unfold oppF
          rw [if_neg]
          unfold negFit
          rw [List.all_eq_true]
          exact fun h => by have := h _ HMEM.out; simp at this)
        have HUP := Lib.hid hU
        clear hU
        go_wp2
        refine bodyPost_ret (v := .tuple #[.agg #[.int .i64 0, .slice none 0 0], .int .i64 3]) (by first | (simp [results, Tryd.results47, go_sem, c0, c1, q9]; done) | go_simp) rfl ?_
        rw [HG.out]
        exact ⟨⟨_, rfl, monos_nil _, cap_nil⟩, by repeat (first | exact HUP.out | refine Up.alloc ?_ _ | refine HSET.out _ _ _ ?_)⟩
      · have hm1 : (b == -9223372036854775808) = false := by simpa using hmin
        have hm2 : -9223372036854775807 ≤ b := by omega
        obtain ⟨c, hc⟩ : ∃ c, -b = c := ⟨_, rfl⟩
        have hc0 : -9223372036854775808 ≤ c := by omega
        have hc1 : c ≤ 9223372036854775807 := by omega
        have HF2 : Hid (negFit (l.take (k + 1)) = true) := Lib.hid (by
          rw [HT.out, negFit_snoc, HFK.out]; simp; omega)
        have HO2 : Hid (negL (l.take (k + 1)) = negL (l.take k) ++ [(s, c)]) := Lib.hid (by
          rw [HT.out, negL_snoc, hc])
        obtain ⟨wa, hwa⟩ : ∃ wa, wr.alloc (.cells #[.string s, .int .i64 b] 56) = wa := ⟨_, rfl⟩
        have hUa : Up wr wa := hwa ▸ (Up.refl wr).alloc _
        have hOa := HOut.out.up hUa
        obtain ⟨a0, a1, af, al⟩ := hOa.cells
        have hsa : wa.heap.size = wr.heap.size + 1 := by rw [← hwa, size_alloc]
        have d0 : wa.cell? ⟨wr.heap.size, 0, none⟩ = some (.string s) := by rw [← hwa]; exact cell_of_row _ _ _ _ _ _ (heap_alloc_new wr _)
        have d1 : wa.cell? ⟨wr.heap.size, 1, none⟩ = some (.int .i64 b) := by rw [← hwa]; exact cell_of_row _ _ _ _ _ _ (heap_alloc_new wr _)
        have HWA := Lib.hid hwa
        have HOA := Lib.hid hOa
        have HKEY := Lib.hid (hOa.key s c)
        have HRA := Lib.hid (HRow.out.trans (hUa.row (by omega : O + 1 ≤ wr.heap.size)))
        have q7 : wr.heap.size < wa.heap.size := by omega
        have q8 : wr.heap.size < wa.heap.size + 1 := by omega
        have hkm : (k : Int) ≤ 1000 := by omega
        clear hwa hUa hOa o0 o1 of hsa c0 c1 cf hU
        go_upto_region 5 with fail
        rw [HWA.out]
        go_wp2_with (at_builtin; refine wpList_append_sl _ rfl _ _ 22 rfl (O + 1) 56 i0 _ 2 24 Tryd.underlying22 hi0 hz0 hz1 hz2 rfl (by decide) (.slice va k vc) k _ rfl (HOA.out.2.2.1.alloc _) (.slice (some ⟨wa.heap.size, 0, none⟩) 1 1) 1 _ rfl (mono_sl wa s c) (mono_one s c) (by unfold maxLen; omega) (by omega) (by have := HOA.out.2.2.2.2; simp; omega) ?_; intro v1 w1 hown1 hg1 hat1 hnil1; obtain ⟨vb, vd, rfl⟩ := own_slice hown1; obtain ⟨d2, d3, HD2, HD3, HD4⟩ := HKEY.out w1 hg1; have HO1 := Lib.hid hown1; clear hown1 hg1 hat1 hnil1)
        obtain ⟨hf1, hf2⟩ := HOA.out.done s c HD2.out HD3.out HD4.out vb vd HO1.out
        go_roundw
        case rel => exact ⟨k + 1, vb, vd, by omega, by go_num, HF2.out, by rw [HO2.out]; exact hf1, HRA.out.trans hf2⟩
        case measure => simp [intOf]; omega
    · have hlt2 : (n : Int) ≤ (k : Int) := by omega
      have hkn : k = n := by omega
      subst hkn
      have hta : l.take k = l := List.take_of_length_le (by rw [HN.out]; omega)
      have HUW := Lib.hid hU
      have HG : Hid (r = (Ko, negL l, 0)) := Lib.hid (by
        have := HFK.out
        rw [hta] at this
        rw [← HR.out, ← HKO.out]; unfold oppF; rw [if_pos this])
      have q6 : O < wr.heap.size := ol
      have q9 : w.heap.size + 1 < wr.heap.size := by omega
      clear hU
      go_wp2
      refine bodyPost_ret (v := .tuple #[.agg #[.int .i64 Ko, .slice va k vc], .int .i64 0]) (by simp [results, Tryd.results47, go_sem, c0, c1]) rfl ?_
      rw [HG.out]
      refine ⟨⟨.slice va k vc, rfl, ?_, own_cap HOut.out.2.2.1⟩, by repeat (first | exact HUW.out | refine HSET.out _ _ _ ?_)⟩
      have hoo := HOut.out
      rw [hta] at hoo
      have hle : k = (negL l).length := hoo.1
      show SlAt _ _ (negL l).length 2 _
      rw [← hle]
      refine SlAt.of_own (base := O + 1) (e := 56) (xs := monoCells (negL l)) ?_ (by omega) (fun i j hi hj => monoCells_get _ i j (by omega) hj)
      repeat (first | exact hoo.2.2.1 | refine ownsRow_setCell_below ?_ (by show w.heap.size + 1 < O + 1; omega) _)
end Go.Proofs.YtahlecmlhdikjaaDoor
end
