/-
  Joined by a program: SoN, SoL, SoT.
-/
import Derived.Test.YtpccaifhcmcegaaGreatHd
import Derived.Laws.Strings
import Derived.Laws.Cover1
import Derived.Lib.Strings
import Derived.BigQuiet

section
namespace Go.Proofs.YtpccaifhcmcegaaGreat
set_option linter.unusedSimpArgs false
open Go.ChangeShapes Go.WideShapes Go.ChangeAt Go.RowKit
set_option linter.unusedVariables false

def words : List (List UInt8) := [[115, 105, 122, 101], [119, 104, 101, 114, 101], [105, 110], [100, 101, 102], [111, 117, 116], [115, 117, 109], [112, 114, 111, 100], [109, 105, 110], [109, 97, 120], [115, 99, 97, 110], [111, 118, 101, 114], [105, 102], [99, 97, 115, 116], [102, 114, 97, 99], [105, 110, 116], [102, 105, 120], [99, 101, 105, 108], [102, 108, 111, 111, 114], [122, 101, 114, 111], [101, 118, 101, 110], [115, 97, 116], [119, 114, 97, 112]]
def wordB (s : List UInt8) : Bool := words.contains s
def fstOk (s : List UInt8) : Bool := decide (97 ≤ (s.getD 0 0).toNat) && decide ((s.getD 0 0).toNat ≤ 122)
def okC (c : UInt8) : Bool := (decide (97 ≤ c.toNat) && decide (c.toNat ≤ 122)) || (decide (48 ≤ c.toNat) && decide (c.toNat ≤ 57)) || decide (c.toNat = 95)
def nameB (s : List UInt8) : Bool := decide (1 ≤ s.length) && decide (s.length ≤ 16) && !wordB s && fstOk s && s.all okC

theorem run_byte {P : Program} (w : World) (t : TypeId) (s : ByteArray) (k c : Nat) (h : P.underlying t = some .string) (hk : k < s.size) (hc : (s.data.toList.getD k 0).toNat = c) :
    (Instr.index t (.string s) (.int .i64 (k : Int))).run P w = .ok (.int .u8 (c : Int)) w := by
  rw [run_index_string w t s _ _ h, dif_pos ⟨by omega, by omega⟩]
  congr 2
  rw [← hc]
  have hl : k < s.data.toList.length := by rw [← Lib.size_eq]; exact hk
  rw [List.getD_eq_getElem?_getD, List.getElem?_eq_getElem hl]
  show (((s[((k : Int)).toNat]'(_)).toNat : Nat) : Int) = _
  simp only [Int.toNat_natCast]
  rfl

theorem len_size (s : ByteArray) : s.data.toList.length = s.size := by cases s; rfl

theorem all_drop {l : List UInt8} {k : Nat} {p : UInt8 → Bool} (hk : k < l.length) : (l.drop k).all p = (p (l.getD k 0) && (l.drop (k + 1)).all p) := by
  rw [List.drop_eq_getElem_cons hk, List.all_cons, List.getD_eq_getElem?_getD, List.getElem?_eq_getElem hk]; rfl

theorem SlAt.new (w : World) (t : TypeId) (cs : Array Value) (n k : Nat) (f : Nat → Nat → Value) (hn : n ≤ 9223372036854775807) (h : ∀ i j, i < n → j < k → cs[i * k + j]? = some (f i j)) :
    SlAt (w.alloc (.cells cs t)) (.slice (some ⟨w.heap.size, 0, none⟩) n n) n k f :=
  ⟨⟨some ⟨w.heap.size, 0, none⟩, n, rfl, (fun e => nomatch e), fun x hx _ => by
    cases hx
    refine ⟨rfl, by simp, fun i j hi hj => ?_⟩
    rw [cell_of_row _ _ _ _ _ _ (heap_alloc_new w _)]
    simp only [Nat.zero_add]
    exact h i j hi hj⟩, hn⟩

def wordsS : List ByteArray := words.map fun l => ⟨l.toArray⟩
theorem beq_swap (a b : List UInt8) : (a == b) = (b == a) := Bool.eq_iff_iff.2 (by rw [beq_iff_eq, beq_iff_eq]; exact eq_comm)
theorem words_has (s : ByteArray) : has wordsS s = wordB s.toList := by
  unfold has wordsS wordB
  rw [List.any_map, List.contains_eq_any_beq]
  congr 1
  funext l
  show decide ((⟨l.toArray⟩ : ByteArray) = s) = (s.toList == l)
  rw [← tl_eq, ByteArray.toList_mk, beq_swap]
theorem wordsS_size : ∀ x ∈ wordsS, x.size ≤ maxLen := by decide

set_option maxHeartbeats 1000000 in
theorem base_Words (w : World) :
    Calls Tryz.prog 74 #[] w fun e w' => ∃ v, e = .returned v ∧ LsAt 1 16 strR w' v wordsS ∧ Up w w' := by
  go_enter Tryz.func74, Tryz.ntmps74
  go_wp2
  go_ret
  refine ⟨_, rfl, ⟨⟨_, _, rfl, Nat.le_refl _⟩, by decide, (fun i _ => .string (wordsS.getD i ⟨#[]⟩)), ?_, ?_⟩, (Up.refl _).alloc _⟩
  · refine SlAt.new w _ _ 22 1 (fun i _ => .string (wordsS.getD i ⟨#[]⟩)) (by decide) fun i j hi hj => ?_
    obtain rfl : j = 0 := by omega
    rcases (by omega : i = 0 ∨ i = 1 ∨ i = 2 ∨ i = 3 ∨ i = 4 ∨ i = 5 ∨ i = 6 ∨ i = 7 ∨ i = 8 ∨ i = 9 ∨ i = 10 ∨ i = 11 ∨ i = 12 ∨ i = 13 ∨ i = 14 ∨ i = 15 ∨ i = 16 ∨ i = 17 ∨ i = 18 ∨ i = 19 ∨ i = 20 ∨ i = 21) with rfl | rfl | rfl | rfl | rfl | rfl | rfl | rfl | rfl | rfl | rfl | rfl | rfl | rfl | rfl | rfl | rfl | rfl | rfl | rfl | rfl | rfl <;> rfl
  · intro i hi
    refine ⟨?_, wordsS_size _ (List.getElem_mem hi)⟩
    show Value.string (wordsS.getD i ⟨#[]⟩) = _
    rw [List.getD_eq_getElem?_getD, List.getElem?_eq_getElem hi]; rfl

def fromK (l : List UInt8) (k : Nat) : Bool := if k = 0 then fstOk l && l.all okC else (l.drop k).all okC

set_option maxHeartbeats 2000000 in
theorem base_Name (s : ByteArray) (w : World) :
    Calls Tryz.prog 61 #[.string s] w fun e w' => e = .returned (.bool (nameB s.toList)) ∧ Up w w' := by
  have hlen := len_size s
  obtain ⟨l, hl⟩ : ∃ l, s.data.toList = l := ⟨_, rfl⟩
  rw [hl] at hlen
  obtain ⟨r, hr⟩ : ∃ r, nameB s.toList = r := ⟨_, rfl⟩
  rw [hr]
  rw [Lib.toList_data, hl] at hr
  obtain ⟨q, hq⟩ : ∃ b, wordB l = b := ⟨_, rfl⟩
  have hrs : ∀ (w : World) (v : Value), LsAt 1 16 strR w v wordsS → Calls Tryz.prog 10 #[v, .string s] w fun e w' => e = .returned (.bool q) ∧ w' = w := fun w v hv => by
    exact base_Has s wordsS v w hv q (by rw [words_has, Lib.toList_data, hl, hq])
  obtain ⟨n, hn⟩ : ∃ n, s.size = n := ⟨_, rfl⟩
  rw [hn] at hlen
  have HN := Lib.hid hn
  have HR := Lib.hid hr
  have HL := Lib.hid hl
  have HRS := Lib.hid hrs
  have HQ := Lib.hid hq
  clear hr hl hrs hq
  by_cases h0 : n < 1
  · have h1 : (n : Int) < 1 := by omega
    go_enter Tryz.func61, Tryz.ntmps61
    go_wp2
    go_ret
    refine ⟨ret_bool ?_, Up.refl _⟩
    rw [← HR.out]
    have e1 : decide (1 ≤ l.length) = false := decide_eq_false (by omega)
    simp only [nameB, e1, Bool.false_and]
  have h1 : ¬ (n : Int) < 1 := by omega
  by_cases h2 : 16 < n
  · have h3 : (16 : Int) < n := by omega
    go_enter Tryz.func61, Tryz.ntmps61
    go_wp2
    go_ret
    refine ⟨ret_bool ?_, Up.refl _⟩
    rw [← HR.out]
    have e1 : decide (l.length ≤ 16) = false := by simp; omega
    simp only [nameB, e1, Bool.and_false, Bool.false_and]
  have h3 : ¬ (16 : Int) < n := by omega
  go_enter Tryz.func61, Tryz.ntmps61
  go_wp2_with fail
  refine (base_Words _).mono ?_
  rintro e x1 ⟨v, rfl, hv, hx1⟩
  go_wp2_with fail
  refine (HRS.out _ _ hv).mono ?_
  rintro e x2 ⟨rfl, hx2⟩
  replace hx2 := hx2.symm
  subst hx2
  clear hv
  cases q
  case true =>
    go_wp2
    go_ret
    refine ⟨ret_bool ?_, hx1⟩
    rw [← HR.out]
    simp [nameB, HQ.out]
  have HA : Hid (fromK l 0 = r) := Lib.hid (by
    rw [← HR.out]
    have e1 : decide (1 ≤ l.length) = true := by simp; omega
    have e2 : decide (l.length ≤ 16) = true := by simp; omega
    simp [nameB, fromK, e1, e2, HQ.out])
  clear h0 h2
  go_wp2
  go_loopw [3] (fun i wr => ∃ k : Nat, k ≤ n ∧ i = .int .i64 k ∧ wr = x1 ∧ fromK l k = r) (fun i _ => n - (intOf i).toNat)
  case atStart => exact ⟨0, by omega, rfl, rfl, HA.out⟩
  case round =>
    obtain ⟨k, hk, rfl, hw, hP⟩ := hrel
    replace hw := hw.symm
    subst hw
    have HP := Lib.hid hP
    clear hP
    by_cases hlt : k < n
    · have hlt2 : (k : Int) < (n : Int) := by omega
      have hk0 : (0 : Int) ≤ (k : Int) := by omega
      obtain ⟨d, hd⟩ : ∃ d, (l.getD k 0).toNat = d := ⟨_, rfl⟩
      have hix := fun w : World => run_byte (P := Tryz.prog) w 9 s k d Tryz.underlying9 (by omega) (by rw [HL.out]; exact hd)
      have HD := Lib.hid hd
      clear hd
      obtain ⟨q, hq⟩ : ∃ q, okC (l.getD k 0) = q := ⟨_, rfl⟩
      have HQ2 := Lib.hid hq
      clear hq
      have hx : q = (decide (97 ≤ d) && decide (d ≤ 122) || decide (48 ≤ d) && decide (d ≤ 57) || decide (d = 95)) := by
        rw [← HQ2.out, okC, HD.out]
      by_cases hlow : 97 ≤ d ∧ d ≤ 122
      · obtain rfl : q = true := by rw [hx]; simp; omega
        have HP2 : Hid (fromK l (k + 1) = r) := Lib.hid (by
          rw [← HP.out]
          unfold fromK
          rw [if_neg (by omega)]
          by_cases hk00 : k = 0
          · subst hk00
            rw [if_pos rfl]
            have e3 : fstOk l = true := by unfold fstOk; rw [HD.out]; simp; omega
            have := all_drop (l := l) (k := 0) (p := okC) (by omega)
            rw [List.drop_zero] at this
            rw [this, HQ2.out, e3]; rfl
          · rw [if_neg hk00, all_drop (l := l) (k := k) (by omega), HQ2.out]; rfl)
        clear hx HP HQ2
        have f0 : (97 : Int) ≤ (d : Int) := by omega
        have f1 : (d : Int) ≤ 122 := by omega
        go_wp2
        go_roundw
        case rel => exact ⟨k + 1, by omega, by go_num, by trivial, HP2.out⟩
        case measure => simp [intOf]; omega
      · by_cases hk00 : k = 0
        · subst hk00
          have HP2 : Hid (false = r) := Lib.hid (by
            rw [← HP.out]
            unfold fromK
            rw [if_pos rfl]
            have e3 : fstOk l = false := by unfold fstOk; rw [HD.out]; simp; omega
            rw [e3]; rfl)
          clear hx HP HQ2
          simp only [Int.natCast_zero] at hix
          rcases (by omega : d < 97 ∨ (97 ≤ d ∧ 122 < d)) with h | h
          · have f0 : (d : Int) < 97 := by omega
            go_wp2
            go_ret
            exact ⟨ret_bool HP2.out, hx1⟩
          · have f0 : (97 : Int) ≤ (d : Int) := by omega
            have f1 : ¬ (d : Int) ≤ 122 := by omega
            have f2 : decide ((d : Int) ≤ 122) = false := decide_eq_false f1
            go_wp2
            go_ret
            exact ⟨ret_bool HP2.out, hx1⟩
        · have hkp : (0 : Int) < (k : Int) := by omega
          have HP2 : Hid ((q && fromK l (k + 1)) = r) := Lib.hid (by
            rw [← HP.out]
            unfold fromK
            rw [if_neg (by omega), if_neg hk00, all_drop (l := l) (k := k) (by omega), HQ2.out])
          clear HP HQ2
          rcases (by omega : d < 48 ∨ (48 ≤ d ∧ d ≤ 57) ∨ (57 < d ∧ d < 97 ∧ d ≠ 95) ∨ d = 95 ∨ 122 < d) with h | h | h | h | h
          · obtain rfl : q = false := by rw [hx]; simp; omega
            clear hx
            have f0 : (d : Int) < 97 := by omega
            have f1 : (d : Int) < 48 := by omega
            have f2 : ((d : Int) == 95) = false := by simp; omega
            go_wp2
            go_ret
            exact ⟨ret_bool (by have := HP2.out; rw [← this]; rfl), hx1⟩
          · obtain rfl : q = true := by rw [hx]; simp; omega
            clear hx
            have f0 : (d : Int) < 97 := by omega
            have f1 : (48 : Int) ≤ (d : Int) := by omega
            have f2 : (d : Int) ≤ 57 := by omega
            go_wp2
            go_roundw
            case rel => exact ⟨k + 1, by omega, by go_num, by trivial, by have := HP2.out; rw [← this]; rfl⟩
            case measure => simp [intOf]; omega
          · obtain rfl : q = false := by rw [hx]; simp; omega
            clear hx
            have f0 : (d : Int) < 97 := by omega
            have f1 : (48 : Int) ≤ (d : Int) := by omega
            have f2 : ¬ (d : Int) ≤ 57 := by omega
            have f5 : decide ((d : Int) ≤ 57) = false := decide_eq_false f2
            have f3 : ((d : Int) == 95) = false := by simp; omega
            go_wp2
            go_ret
            exact ⟨ret_bool (by have := HP2.out; rw [← this]; rfl), hx1⟩
          · obtain rfl : q = true := by rw [hx]; simp; omega
            clear hx
            subst h
            go_wp2
            go_roundw
            case rel => exact ⟨k + 1, by omega, by go_num, by trivial, by have := HP2.out; rw [← this]; rfl⟩
            case measure => simp [intOf]; omega
          · obtain rfl : q = false := by rw [hx]; simp; omega
            clear hx
            have f0 : (97 : Int) ≤ (d : Int) := by omega
            have f1 : ¬ (d : Int) ≤ 122 := by omega
            have f8 : decide ((d : Int) ≤ 122) = false := decide_eq_false f1
            have f4 : (48 : Int) ≤ (d : Int) := by omega
            have f7 : ¬ (d : Int) ≤ 57 := by omega
            have f6 : decide ((d : Int) ≤ 57) = false := decide_eq_false f7
            have f2 : ((d : Int) == 95) = false := by simp; omega
            go_wp2
            go_ret
            exact ⟨ret_bool (by have := HP2.out; rw [← this]; rfl), hx1⟩
    · have hlt2 : (n : Int) ≤ (k : Int) := by omega
      go_wp2
      go_ret
      refine ⟨ret_bool ?_, hx1⟩
      rw [← HP.out]
      unfold fromK
      rw [if_neg (by omega), List.drop_eq_nil_of_le (by omega)]
      rfl
end Go.Proofs.YtpccaifhcmcegaaGreat
end

section
namespace Go.Proofs.YtpccaifhcmcegaaGreat
set_option linter.unusedSimpArgs false
open Go.ChangeShapes Go.WideShapes Go.ChangeAt Go.RowKit
set_option linter.unusedVariables false

abbrev m0 : Mono := (⟨#[]⟩, 0)
def monoF (l : List Mono) (i j : Nat) : Value := match j with
  | 0 => .string (l.getD i m0).1
  | _ => .int .i64 (l.getD i m0).2
def MonosAt (w : World) (v : Value) (l : List Mono) : Prop := SlAt w v l.length 2 (monoF l)
def prevOk (p : Option (List UInt8)) (s : List UInt8) : Bool := match p with
  | none => true
  | some q => Op.bytesLess q s
def okFrom : Option (List UInt8) → List Mono → Bool
  | _, [] => true
  | p, (s, b) :: r => nameB s.toList && decide (b ≠ 0) && prevOk p s.toList && okFrom (some s.toList) r
def okL (l : List Mono) : Bool := okFrom none l
def prevAt (l : List Mono) (k : Nat) : Option (List UInt8) := match k with
  | 0 => none
  | j + 1 => some (l.getD j m0).1.toList

theorem size_alloc (x : World) (o : Obj) : (x.alloc o).heap.size = x.heap.size + 1 := by simp

theorem mono_at {w : World} {l : List Mono} {bl off k : Nat} (n : Nat) (g3 : ∀ i j, i < n → j < 2 → w.cell? ⟨bl, off + i * 2 + j, none⟩ = some (monoF l i j)) (hk : k < n) {s : ByteArray} {b : Int} (h : l.getD k m0 = (s, b)) :
    w.cell? ⟨bl, off + k * 2, none⟩ = some (.string s) ∧ w.cell? ⟨bl, off + k * 2 + 1, none⟩ = some (.int .i64 b) := by
  have a0 := g3 k 0 hk (by omega)
  have a1 := g3 k 1 hk (by omega)
  simp only [monoF, h, Nat.add_zero] at a0 a1
  exact ⟨a0, a1⟩
theorem drop_mono {l : List Mono} {k : Nat} (hk : k < l.length) {m : Mono} (h : l.getD k m0 = m) : l.drop k = m :: l.drop (k + 1) := by
  rw [List.drop_eq_getElem_cons hk, ← h, List.getD_eq_getElem?_getD, List.getElem?_eq_getElem hk]; rfl

set_option maxHeartbeats 4000000 in
theorem base_LinRight (K : Int) (v : Value) (l : List Mono) (w : World) (hv : MonosAt w v l) :
    Calls Tryz.prog 41 #[.agg #[.int .i64 K, v]] w fun e w' => e = .returned (.bool (okL l)) ∧ Up w w' := by
  obtain ⟨⟨a, cap, rfl, h0, hc⟩, hmax⟩ := hv
  obtain ⟨r, hr⟩ : ∃ r, okL l = r := ⟨_, rfl⟩
  rw [hr]
  obtain ⟨n, hn⟩ : ∃ n, l.length = n := ⟨_, rfl⟩
  rw [hn] at h0 hc hmax ⊢
  have HN := Lib.hid hn
  have HR := Lib.hid hr
  have HC := Lib.hid hc
  have H0 := Lib.hid h0
  clear hr hn hc h0
  go_enter Tryz.func41, Tryz.ntmps41
  go_wp2
  obtain ⟨W1, hW1⟩ : ∃ W1, w.alloc (.cells #[.int .i64 K, .slice a n cap] 44) = W1 := ⟨_, rfl⟩
  rw [hW1]
  have HU1 : Hid (Up w W1) := Lib.hid (hW1 ▸ (Up.refl w).alloc _)
  obtain ⟨B, hB⟩ : ∃ B, w.heap.size = B := ⟨_, rfl⟩
  have hrow : W1.heap[B]? = some (.cells #[.int .i64 K, .slice a n cap] 44 (0, 0)) := by
    rw [← hW1, ← hB]; exact heap_alloc_new w _
  have hsz1 : W1.heap.size = B + 1 := by rw [← hW1, size_alloc, hB]
  have HROW := Lib.hid hrow
  clear hrow hW1
  try rw [hB]
  have HB := Lib.hid hB
  clear hB
  go_loopw [3] (fun i wr => ∃ k : Nat, k ≤ n ∧ i = .int .i64 k ∧ Up W1 wr ∧ okFrom (prevAt l k) (l.drop k) = r) (fun i _ => n - (intOf i).toNat)
  case atStart => exact ⟨0, by omega, rfl, Up.refl _, by rw [List.drop_zero]; exact HR.out⟩
  case round =>
    rename_i wr
    obtain ⟨k, hk, rfl, hU, hP⟩ := hrel
    have HP := Lib.hid hP
    clear hP
    have hU2 := HU1.out.trans hU
    have d1 : wr.cell? ⟨B, 1, none⟩ = some (.slice a n cap) := (hU.cell _ _ (by omega)).trans (cell_of_row _ _ _ _ _ _ HROW.out)
    by_cases hlt : k < n
    · have hlt2 : (k : Int) < (n : Int) := by omega
      have hk0 : (0 : Int) ≤ (k : Int) := by omega
      obtain ⟨x, rfl⟩ : ∃ x, a = some x := by
        cases a with
        | none => exact absurd (H0.out rfl) (by omega)
        | some x => exact ⟨x, rfl⟩
      obtain ⟨g1, g2, g3⟩ := HC.out x rfl (by omega)
      obtain ⟨bl, off, sp⟩ := x
      have g1' : sp = none := g1
      subst g1'
      obtain ⟨s, b, hm⟩ : ∃ s b, l.getD k m0 = (s, b) := ⟨_, _, rfl⟩
      have g4 : ∀ i j, i < n → j < 2 → wr.cell? ⟨bl, off + i * 2 + j, none⟩ = some (monoF l i j) := fun i j hi hj => (hU2.cell _ _ g2).trans (g3 i j hi hj)
      obtain ⟨c0, c1⟩ := mono_at n g4 hlt hm
      have hs1 := hU.size
      have hs2 := hU2.size
      have g2' : bl < w.heap.size := g2
      have q1 : bl < wr.heap.size := by omega
      have q2 : B < wr.heap.size := by omega
      have hdrop := drop_mono (by rw [HN.out]; exact hlt) hm
      have HM := Lib.hid hm
      have G4 := Lib.hid g4
      clear g3 hm g4 g2 g2'
      have HP1 : Hid ((nameB s.toList && decide (b ≠ 0) && prevOk (prevAt l k) s.toList && okFrom (some s.toList) (l.drop (k + 1))) = r) := Lib.hid (by rw [← HP.out, hdrop]; rfl)
      clear hdrop
      obtain ⟨nb, hnb⟩ : ∃ q, nameB s.toList = q := ⟨_, rfl⟩
      rw [hnb] at HP1
      have HID : Hid (∀ w : World, Calls Tryz.prog 61 #[.string s] w fun e w' => e = .returned (.bool nb) ∧ Up w w') := Lib.hid fun w => by
        rw [← hnb]
        exact base_Name s w
      clear hnb HP
      cases nb
      · have HF : Hid (false = r) := Lib.hid (by rw [← HP1.out]; rfl)
        go_wp2_with fail
        refine wp_region_ext (by kernel_rfl) (by kernel_rfl) ?_
        repeat (go_big_quiet_step ((go_at_call 61; exact Calls.ext_of (HID.out _))))
        refine wpQuiet_nil ?_
        intro x hx
        go_wp2
        go_ret
        exact ⟨ret_bool HF.out, hU2.trans hx⟩
      by_cases hb : b = 0
      · subst hb
        have HF : Hid (false = r) := Lib.hid (by rw [← HP1.out]; rfl)
        go_wp2_with fail
        refine wp_region_ext (by kernel_rfl) (by kernel_rfl) ?_
        repeat (go_big_quiet_step ((go_at_call 61; exact Calls.ext_of (HID.out _))))
        refine wpQuiet_nil ?_
        intro x hx
        go_wp2
        go_ret
        exact ⟨ret_bool HF.out, hU2.trans hx⟩
      have hb2 : (b == 0) = false := by simpa using hb
      have HP2 : Hid ((prevOk (prevAt l k) s.toList && okFrom (some s.toList) (l.drop (k + 1))) = r) := Lib.hid (by
        rw [← HP1.out]
        simp [hb])
      clear HP1
      cases k with
      | zero =>
        simp only [Nat.zero_mul, Nat.add_zero] at c0 c1
        have HG : Hid (okFrom (prevAt l (0 + 1)) (l.drop (0 + 1)) = r) := Lib.hid (by
          rw [← HP2.out]
          show okFrom (some (l.getD 0 m0).1.toList) _ = _
          rw [HM.out]; rfl)
        clear HP2
        go_wp2_with fail
        refine wp_region_ext (by kernel_rfl) (by kernel_rfl) ?_
        repeat (go_big_quiet_step ((go_at_call 61; exact Calls.ext_of (HID.out _))))
        refine wpQuiet_nil ?_
        intro x hx
        go_wp2
        go_roundw
        case rel => exact ⟨0 + 1, by omega, by go_num, hU.trans hx, HG.out⟩
        case measure => simp [intOf]; omega
      | succ j =>
        obtain ⟨s', b', hm'⟩ : ∃ s b, l.getD j m0 = (s, b) := ⟨_, _, rfl⟩
        obtain ⟨c2, c3⟩ := mono_at n G4.out (by omega : j < n) hm'
        obtain ⟨q, hq⟩ : ∃ q, Op.bytesLess s'.toList s.toList = q := ⟨_, rfl⟩
        have HP3 : Hid ((q && okFrom (some s.toList) (l.drop (j + 1 + 1))) = r) := Lib.hid (by
          rw [← HP2.out]
          show _ = (Op.bytesLess (l.getD j m0).1.toList s.toList && _)
          rw [hm', hq])
        have hkp : (0 : Int) < ((j + 1 : Nat) : Int) := by omega
        have hkm : ((j + 1 : Nat) : Int) - 1 = (j : Int) := by omega
        have hj0 : (0 : Int) ≤ (j : Int) := by omega
        have hjn : (j : Int) < (n : Int) := by omega
        clear HP2 hm'
        cases q
        · have HF : Hid (false = r) := Lib.hid (by rw [← HP3.out]; rfl)
          go_wp2_with fail
          refine wp_region_ext (by kernel_rfl) (by kernel_rfl) ?_
          repeat (go_big_quiet_step ((go_at_call 61; exact Calls.ext_of (HID.out _))))
          refine wpQuiet_nil ?_
          intro x hx
          go_wp2
          go_ret
          exact ⟨ret_bool HF.out, hU2.trans hx⟩
        · have HG : Hid (okFrom (prevAt l (j + 1 + 1)) (l.drop (j + 1 + 1)) = r) := Lib.hid (by
            rw [← HP3.out]
            show okFrom (some (l.getD (j + 1) m0).1.toList) _ = _
            rw [HM.out]; rfl)
          clear HP3
          go_wp2_with fail
          refine wp_region_ext (by kernel_rfl) (by kernel_rfl) ?_
          repeat (go_big_quiet_step ((go_at_call 61; exact Calls.ext_of (HID.out _))))
          refine wpQuiet_nil ?_
          intro x hx
          go_wp2
          go_roundw
          case rel => exact ⟨j + 1 + 1, by omega, by go_num, hU.trans hx, HG.out⟩
          case measure => simp [intOf]; omega
    · have hlt2 : (n : Int) ≤ (k : Int) := by omega
      obtain rfl : r = true := by rw [← HP.out, List.drop_eq_nil_of_le (by rw [HN.out]; omega)]; rfl
      go_wp2
      go_ret
      exact ⟨rfl, hU2⟩
theorem monosAt {w : World} {v : Value} {l : List Mono} (h : LsAt 2 24 monR w v l) : MonosAt w v l := by
  obtain ⟨_, _, F, hS, hR⟩ := h
  obtain ⟨⟨a, c, e, h0, hx⟩, hm⟩ := hS
  refine ⟨⟨a, c, e, h0, fun x hx1 hl => ?_⟩, hm⟩
  obtain ⟨g1, g2, g3⟩ := hx x hx1 hl
  refine ⟨g1, g2, fun i j hi hj => ?_⟩
  rw [g3 i j hi hj]
  have := hR i hi
  obtain ⟨⟨h1, _⟩, h2⟩ := this
  have hg : l.getD i m0 = l[i] := by rw [List.getD_eq_getElem?_getD, List.getElem?_eq_getElem hi]; rfl
  have hj2 : j = 0 ∨ j = 1 := by omega
  rcases hj2 with rfl | rfl
  · rw [h1]; show _ = some (Value.string (l.getD i m0).1); rw [hg]
  · rw [h2]; show _ = some (Value.int _ (l.getD i m0).2); rw [hg]
theorem base_LinRight' (K : Int) (v : Value) (l : List Mono) (w : World) (hv : LsAt 2 24 monR w v l) :
    Calls Tryz.prog 41 #[.agg #[.int .i64 K, v]] w fun e w' => e = .returned (.bool (okL l)) ∧ Up w w' := base_LinRight K v l w (monosAt hv)
end Go.Proofs.YtpccaifhcmcegaaGreat
end

section
namespace Go.Proofs.YtpccaifhcmcegaaGreat
set_option linter.unusedSimpArgs false
open Go.ChangeShapes Go.WideShapes Go.ChangeAt Go.RowKit
set_option linter.unusedVariables false

/-- A bool that grants P where it is true. -/
def BoolQ (P : Prop) (w : World) (e : Ending) (w' : World) : Prop := ∃ b : Bool, e = .returned (.bool b) ∧ Up w w' ∧ (b = true → P)
/-- An error that grants P where it is none. -/
def ErrQ (P : Prop) (w : World) (e : Ending) (w' : World) : Prop := ∃ f : Int, e = .returned (.int .i64 f) ∧ Up w w' ∧ (f = 0 → P)
abbrev typV (t : Typ) : Value := .agg #[.int .i64 t.1, .int .i64 t.2.1, .int .i64 t.2.2.1, .int .i64 t.2.2.2.1, .int .i64 t.2.2.2.2]
/-- A type and an error that grants P where it is none. -/
def TypQ (P : Prop) (w : World) (e : Ending) (w' : World) : Prop := ∃ (t : Typ) (f : Int), e = .returned (.tuple #[typV t, .int .i64 f]) ∧ Up w w' ∧ (f = 0 → P)
def fixB (t : Typ) : Bool := decide (t.1 = 2 ∧ 2 ≤ t.2.1 ∧ t.2.1 ≤ 31 ∧ 0 ≤ t.2.2.1 ∧ t.2.2.1 ≤ 30 ∧ 1 ≤ t.2.2.2.1 ∧ t.2.2.2.1 ≤ 4 ∧ (t.2.2.2.2 = 1 ∨ t.2.2.2.2 = 2))
def plainB (t : Typ) : Bool := decide (t.2.1 = 0 ∧ t.2.2.1 = 0 ∧ t.2.2.2.1 = 0 ∧ t.2.2.2.2 = 0)
def typB (t : Typ) : Bool := (decide (t.1 = 1 ∨ t.1 = 3) && plainB t) || fixB t
set_option maxHeartbeats 8000000 in
theorem base_Type (t : Typ) (e : Bool) (he : typB t = e) (w : World) :
    Calls Tryz.prog 43 #[typV t] w fun e' w' => e' = .returned (.bool e) ∧ Up w w' := by
  obtain ⟨k, b, f, r, o⟩ := t
  have HE := Lib.hid he
  clear he
  go_enter Tryz.func43, Tryz.ntmps43
  go_wp2
  all_goals try simp only [Bool.not_eq_false', Bool.not_eq_true', bne_iff_ne, ne_eq, bne_eq_false_iff_eq, beq_iff_eq, beq_eq_false_iff_ne, decide_eq_true_eq, decide_eq_false_iff_not] at *
  all_goals
    go_ret
    exact ⟨ret_bool (by rw [← HE.out, typB, plainB, fixB, Bool.eq_iff_iff]; simp; omega), (Up.refl w).alloc _⟩
theorem gcd_step (a b : Int) (ha : 0 ≤ a) (hb : 0 ≤ b) : Int.gcd b (a % b) = Int.gcd a b := by
  obtain ⟨x, rfl⟩ := Int.eq_ofNat_of_zero_le ha
  obtain ⟨y, rfl⟩ := Int.eq_ofNat_of_zero_le hb
  rw [← Int.natCast_emod, Int.gcd_natCast_natCast, Int.gcd_natCast_natCast, Nat.gcd_comm x y, Nat.gcd_rec y x, Nat.gcd_comm]

theorem base_gcd (a b g : Int) (hgg : (Int.gcd a b : Int) = g) (ha : 0 ≤ a) (ha' : a ≤ 9223372036854775807) (hb : 0 ≤ b) (hb' : b ≤ 9223372036854775807) (w : World) :
    Calls Tryz.prog 110 #[.int .i64 a, .int .i64 b] w fun e w' => e = .returned (.int .i64 g) ∧ Up w w' := by
  subst hgg
  go_enter Tryz.func110, Tryz.ntmps110
  go_wp2
  go_loopw [0, 1] (fun x y wr => ∃ a' b' : Int, 0 ≤ a' ∧ a' ≤ 9223372036854775807 ∧ 0 ≤ b' ∧ b' ≤ 9223372036854775807 ∧ x = .int .i64 a' ∧ y = .int .i64 b' ∧ Int.gcd a' b' = Int.gcd a b ∧ Up w wr) (fun _ y _ => (intOf y).toNat)
  case atStart => exact ⟨a, b, ha, ha', hb, hb', rfl, rfl, rfl, Up.refl _⟩
  case round =>
    rename_i wr
    obtain ⟨a', b', h1, h2, h3, h4, rfl, rfl, hg, hB⟩ := hrel
    have HG := Lib.hid hg
    clear hg
    by_cases h0 : b' = 0
    · subst h0
      go_wp2
      go_ret
      exact ⟨ret_int (by rw [← HG.out]; simp; omega), hB⟩
    · have h5 : 0 < b' := by omega
      have h6 : (b' == 0) = false := by simp [h0]
      have h7 : (b' != 0) = true := by simp [h0]
      go_wp2
      go_quiet (fail)
      go_wp2
      go_roundw
      case rel => exact ⟨b', a' % b', h3, h4, Int.emod_nonneg _ h0, by have := Int.emod_lt_of_pos a' h5; omega, rfl, rfl, by rw [gcd_step _ _ h1 h3]; exact HG.out, hB.drewN _⟩
      case measure =>
        have := Int.emod_lt_of_pos a' h5
        simp [intOf]; omega


set_option maxHeartbeats 8000000 in
theorem base_Val (t : Typ) (ht : typB t = true) (n d : Int) (w : World) :
    Calls Tryz.prog 103 #[typV t, .agg #[.int .i64 n, .int .i64 d]] w fun e w' => BoolQ True w e w' := by
  obtain ⟨k, b, f, r, o⟩ := t
  have hV := ((Up.refl w).alloc (.cells #[.int .i64 k, .int .i64 b, .int .i64 f, .int .i64 r, .int .i64 o] 38)).alloc (.cells #[.int .i64 n, .int .i64 d] 41)
  by_cases h2 : k = 2
  · subst h2
    have hb : 2 ≤ b ∧ b ≤ 31 := by
      simp only [typB, plainB, fixB, Bool.or_eq_true, Bool.and_eq_true, decide_eq_true_eq] at ht
      omega
    obtain ⟨hb1, hb2⟩ := hb
    clear ht
    go_enter Tryz.func103, Tryz.ntmps103
    go_wp2
    all_goals
      go_ret
      exact ⟨_, rfl, ((Up.refl w).alloc _).alloc _, fun _ => trivial⟩
  · have hk2 : (k == 2) = false := by simpa using h2
    by_cases h3 : k = 3
    · subst h3
      go_enter Tryz.func103, Tryz.ntmps103
      go_wp2
      all_goals
        go_ret
        exact ⟨_, rfl, ((Up.refl w).alloc _).alloc _, fun _ => trivial⟩
    · have hk3 : (k == 3) = false := by simpa using h3
      by_cases hin : n ≤ 2147483647 ∧ -2147483647 ≤ n ∧ 1 ≤ d ∧ d ≤ 2147483647
      · obtain ⟨h1, h2, h3, h4⟩ := hin
        by_cases hs : n < 0
        · have hs2 : n < -n := by omega
          go_enter Tryz.func103, Tryz.ntmps103
          go_wp2_with (go_at_call 110; refine (base_gcd _ _ _ rfl (by omega) (by omega) (by omega) (by omega) _).mono ?_; rintro e x ⟨rfl, hx⟩)
          go_ret
          exact ⟨_, rfl, hV.trans (by assumption), fun _ => trivial⟩
        · have hs2 : ¬ n < -n := by omega
          have hs3 : -n ≤ n := by omega
          go_enter Tryz.func103, Tryz.ntmps103
          go_wp2_with (go_at_call 110; refine (base_gcd _ _ _ rfl (by omega) (by omega) (by omega) (by omega) _).mono ?_; rintro e x ⟨rfl, hx⟩)
          go_ret
          exact ⟨_, rfl, hV.trans (by assumption), fun _ => trivial⟩
      · rcases (by omega : 2147483647 < n ∨ (n ≤ 2147483647 ∧ n < -2147483647) ∨ (n ≤ 2147483647 ∧ -2147483647 ≤ n ∧ d < 1) ∨ (n ≤ 2147483647 ∧ -2147483647 ≤ n ∧ 1 ≤ d ∧ 2147483647 < d)) with h | ⟨h, i0⟩ | ⟨h, i0, i1⟩ | ⟨h, i0, i1, i2⟩
        all_goals
          clear hin
          go_enter Tryz.func103, Tryz.ntmps103
          go_wp2
          go_ret
          exact ⟨_, rfl, hV, fun _ => trivial⟩
end Go.Proofs.YtpccaifhcmcegaaGreat
end
