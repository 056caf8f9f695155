/-
  unique of the program.
-/
import Derived.Test.YtpccaifhcmcegaaGe
namespace Go.Proofs.Ytpccaifhcmcegaa
set_option linter.unusedSimpArgs false
open Go.ChangeShapes Go.WideShapes Go.ChangeAt Go.RowKit
set_option linter.unusedVariables false
set_option maxRecDepth 100000

/-- A text behind a list, if it is not on it. -/
def addU (l : List ByteArray) (s : ByteArray) : List ByteArray := if has l s = true then l else l ++ [s]
/-- Each text once, at its first place. -/
def uniq (l : List ByteArray) : List ByteArray := l.foldl addU []
theorem uniq_take {l : List ByteArray} {i n : Nat} (hn : l.length = n) (hi : i < n) : uniq (l.take (i + 1)) = addU (uniq (l.take i)) (l[i]'(by omega)) := by
  subst hn
  unfold uniq
  rw [List.take_succ_eq_append_getElem hi, List.foldl_append]; rfl
theorem addU_len (l : List ByteArray) (s : ByteArray) : (addU l s).length ≤ l.length + 1 := by
  unfold addU; split <;> simp
theorem foldl_addU_len : ∀ (m l : List ByteArray), (m.foldl addU l).length ≤ l.length + m.length
  | [], l => by simp
  | s :: r, l => by
    rw [List.foldl_cons, List.length_cons]
    have h1 := foldl_addU_len r (addU l s)
    have h2 := addU_len l s
    omega
theorem uniq_len (l : List ByteArray) : (uniq l).length ≤ l.length := by
  have := foldl_addU_len l []
  simpa [uniq] using this
theorem LsN.ls {B : Nat} {w : World} {v : Value} {l : List ByteArray} (h : LsN B w v l) : LsAt 1 16 strR w v l := h.1
theorem LsN.new {B : Nat} {w : World} {v : Value} {l : List ByteArray} (h : LsN B w v l) : NewFrom B v := h.2
/-- A result that lies in new memory. -/
abbrev NewS (w w' : World) (u : Value) (l : List ByteArray) : Prop := LsN w.heap.size w' u l
theorem OwnS.new {base : Nat} {w w' : World} {v : Value} {l : List ByteArray} (h : OwnS base w' v l) (hb : w.heap.size ≤ base) (hl : l.length * 16 ≤ 140737488351232) : NewS w w' v l := by
  refine ⟨OwnL.ls h (by decide) hl, fun a n c e => ?_⟩
  obtain ⟨F, h1, _⟩ := h
  rcases h1.2 with ⟨rfl, _⟩ | ⟨g, cap, cur, rfl, hg, _⟩
  · cases e
  · cases e; exact Nat.le_trans hb hg
theorem NewS.nil (w w' : World) : NewS w w' (.slice none 0 0) [] := ⟨LsAt.nil 1 16 strR _, fun _ _ _ h => by cases h⟩
/-- A text of a list: its cell. -/
theorem LsAt.txt {w : World} {a : Option Addr} {n c : Nat} {l : List ByteArray} (h : LsAt 1 16 strR w (.slice a n c) l) (i : Nat) (hi : i < l.length) :
    ∃ (g o : Nat), a = some ⟨g, o, none⟩ ∧ g < w.heap.size ∧ l[i].size ≤ maxLen ∧ ∀ y, Up w y → y.cell? ⟨g, o + i, none⟩ = some (.string l[i]) := by
  obtain ⟨g, o, f, e, hg, hf, h0, hs⟩ := h.elem i hi
  refine ⟨g, o, e, hg, hs, fun y hy => ?_⟩
  have := hf 0 (by decide)
  rw [Nat.mul_one, Nat.add_zero, h0] at this
  exact (hy.cell _ _ hg).trans this

set_option maxHeartbeats 8000000 in
theorem dg_unique (v : Value) (l : List ByteArray) (w : World) (hv : LsAt 1 16 strR w v l) (hl : l.length ≤ 1000000) :
    Calls Try.prog 34 #[v] w fun e w' => ∃ u, e = .returned u ∧ Up w w' ∧ NewS w w' u (uniq l) := by
  obtain ⟨a, c, rfl, hc⟩ := hv.shape
  obtain ⟨n, hn⟩ : ∃ n, l.length = n := ⟨_, rfl⟩
  rw [hn] at hv hl ⊢
  have hnI : (n : Int) ≤ 1000000 := by omega
  have HV := Lib.hid hv
  have HN := Lib.hid hn
  have HL := Lib.hid hl
  clear hv hn hl hc
  have HU0 : Hid (Up w (w.alloc (.map #[] 0))) := Lib.hid ((Up.refl w).alloc _)
  have HS0 := Lib.hid (SetAt.made w)
  have hmm := @run_makeMap Try.prog
  go_enter Try.func34, Try.ntmps34
  go_wp2
  go_loopw [4, 10] (fun ov iv wr => ∃ i : Nat, iv = .int .i64 i ∧ i ≤ n ∧ Up w wr ∧ SetAt wr w.heap.size i (uniq (l.take i)) ∧ OwnS (w.heap.size + 1) wr ov (uniq (l.take i))) (fun _ iv _ => n - (intOf iv).toNat)
  case atStart => exact ⟨0, rfl, Nat.zero_le _, HU0.out, HS0.out, OwnL.nil⟩
  case round =>
    rename World => wr
    obtain ⟨i, rfl, hi, hup, hst, hrow⟩ := hrel
    have HU := Lib.hid hup
    have HS := Lib.hid hst
    have HLN : Hid ((uniq (l.take i)).length ≤ i) := Lib.hid (Nat.le_trans (uniq_len _) (by rw [List.length_take]; omega))
    obtain ⟨U, hU⟩ : ∃ U, uniq (l.take i) = U := ⟨_, rfl⟩
    have HUE := Lib.hid hU
    rw [hU] at HS HLN hrow
    obtain ⟨va, vc, rfl⟩ := hrow.shape
    have HR := Lib.hid hrow
    obtain ⟨m, hm⟩ : ∃ m, U.length = m := ⟨_, rfl⟩
    rw [hm] at HR HLN ⊢
    have HM := Lib.hid hm
    clear hup hst hrow hU hm HU0 HS0
    by_cases hlt : i < n
    · have hltI : (i : Int) < n := by omega
      obtain ⟨g, o, rfl, hg, hsz, hc⟩ := HV.out.txt i (by rw [HN.out]; exact hlt)
      have HT := Lib.hid (uniq_take HN.out hlt)
      rw [HUE.out] at HT
      have hc1 := hc wr HU.out
      have hg' := Nat.lt_of_lt_of_le hg HU.out.size
      obtain ⟨x, hx⟩ : ∃ x, l[i]'(by rw [HN.out]; exact hlt) = x := ⟨_, rfl⟩
      rw [hx] at hsz hc1
      have HT : Hid (uniq (l.take (i + 1)) = addU U x) := Lib.hid (by rw [← hx]; exact HT.out)
      have HSZ := Lib.hid hsz
      clear hx hsz hc
      obtain ⟨b, hb⟩ : ∃ b, has U x = b := ⟨_, rfl⟩
      have HB := Lib.hid hb
      have HLK := Lib.hid (fun (ops : Array Oper) => @st_look ops)
      cases b
      · have HA : Hid (addU U x = U ++ [x]) := Lib.hid (by unfold addU; rw [HB.out]; rfl)
        clear hb
        go_wp2_with (first
          | (refine st_look HS.out HSZ.out (by rfl) (by rfl) ?_; rw [HB.out])
          | (refine st_put HS.out HSZ.out (by unfold maxLen; omega) (by rfl) (by rfl) (by rfl) ?_; intro w1 h1 h2; have HS1 := Lib.hid h1; have HG1 := Lib.hid h2; have HU1 := Lib.hid (HU.out.grown' h2 (fun k e => by cases e; exact Nat.le_refl _)); clear h1 h2)
          | (at_builtin; refine st_app (mm := 1) rowT_str strQ_one HM.out (by rfl) (H := OwnL.up (fun _ _ _ _ h _ => h) (own_keptL HR.out HG1.out (fun g hg e => by cases e; have := HR.out.base _ hg; omega)) ((Up.refl _).alloc _)) (S := LsAt.one_str _ HSZ.out) (by have := HLN.out; omega) (by decide) (by have := HU1.out.size; have := HS1.out.lt; simp only [World.size_alloc]; omega) (by rfl) (by rfl) ?_; intro ua uc w2 h1 h2 h3; have HR2 := Lib.hid h1; have HG2 := Lib.hid h2; clear h1 h2 h3))
        go_roundw
        case rel =>
          refine ⟨i + 1, by go_num, by omega, ((HU1.out.alloc _).grown' HG2.out fun k e => by have := HR.out.base k e; omega), ?_, ?_⟩
          · rw [HT.out, HA.out]
            refine ((HS1.out.up ((Up.refl _).alloc _)).kept HG2.out fun e => ?_).congr fun s => by simp [or_comm]
            have := HR.out.base _ e.symm
            omega
          · rw [HT.out, HA.out]; exact HR2.out
        case measure => simp [intOf]; omega
      · have HA : Hid (addU U x = U) := Lib.hid (by unfold addU; rw [HB.out]; rfl)
        clear hb
        go_wp2_with (refine st_look HS.out HSZ.out (by rfl) (by rfl) ?_; rw [HB.out])
        go_roundw
        case rel =>
          refine ⟨i + 1, by go_num, by omega, HU.out, ?_, ?_⟩
          · rw [HT.out, HA.out]; exact HS.out.mono (Nat.le_succ _)
          · rw [HT.out, HA.out]; exact HR.out
        case measure => simp [intOf]; omega
    · obtain rfl : i = n := by omega
      have HTK : Hid (l.take i = l) := Lib.hid (List.take_of_length_le (by rw [HN.out]; exact Nat.le_refl _))
      go_wp2
      go_ret
      refine ⟨_, rfl, HU.out, ?_⟩
      have := HUE.out
      rw [HTK.out] at this
      rw [this]
      exact OwnS.new HR.out (Nat.le_succ _) (by have := HLN.out; have := HM.out; have := HL.out; omega)
end Go.Proofs.Ytpccaifhcmcegaa
