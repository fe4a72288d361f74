/- IsBuffer: one contract for each package. No conditions. -/
import Derived.Test.YtnndhkdigmkddaaE4
namespace Go.Proofs.Ytnndhkdigmkddaa
open Go.ChangeShapes Go.WideShapes Go.ChangeAt Go.RowKit Go.Sort
set_option linter.unusedVariables false
set_option linter.unusedSimpArgs false
/-- The place behind the chunk ahead of chunk k. -/
def pe (nx : Int) (l : List Ck) (k : Nat) : Int := if k = 0 then nx - 1 else (l.getD (k - 1) ck0).1 + (l.getD (k - 1) ck0).2.size
def okC (e : Int) (x : Int) (d : ByteArray) : Bool := decide (e < x) && (decide (0 < d.size) && decide (x ≤ 4611686018427387903 - (d.size : Int)))
def okB (nx : Int) (l : List Ck) (k : Nat) : Bool := okC (pe nx l k) (l.getD k ck0).1 (l.getD k ck0).2
def isBf (nx : Int) (l : List Ck) : Bool := qB nx && (List.range l.length).all (okB nx l)
theorem isBf_bad {nx x : Int} {l : List Ck} {k : Nat} {d : ByteArray} (hk : k < l.length) (hx : l.getD k ck0 = (x, d)) (h : okC (pe nx l k) x d = false) : isBf nx l = false := by
  have : (List.range l.length).all (okB nx l) = false := by
    rw [Bool.eq_false_iff]
    intro h2
    rw [List.all_eq_true] at h2
    have := h2 k (List.mem_range.2 hk)
    unfold okB at this
    rw [hx] at this
    simp only at this
    rw [h] at this
    cases this
  simp [isBf, this]
theorem isBf_out {nx : Int} {l : List Ck} (h : qB nx = false) : isBf nx l = false := by simp [isBf, h]
def GoodTo (nx : Int) (l : List Ck) (k : Nat) : Prop := ∀ j, j < k → okB nx l j = true
theorem GoodTo.next {nx x : Int} {l : List Ck} {k : Nat} {d : ByteArray} (h : GoodTo nx l k) (hx : l.getD k ck0 = (x, d)) (h2 : okC (pe nx l k) x d = true) : GoodTo nx l (k + 1) := by
  intro j hj
  by_cases hj' : j < k
  · exact h j hj'
  · obtain rfl : j = k := by omega
    unfold okB; rw [hx]; exact h2
theorem GoodTo.done {nx : Int} {l : List Ck} {n : Nat} (h : GoodTo nx l n) (hn : l.length = n) : isBf nx l = qB nx := by
  have : (List.range l.length).all (okB nx l) = true := by
    rw [List.all_eq_true]
    intro j hj
    exact h j (by rw [← hn]; exact List.mem_range.1 hj)
  simp [isBf, this]
theorem pe_zero (nx : Int) (l : List Ck) : pe nx l 0 = nx - 1 := by simp [pe]
theorem pe_succ {nx x : Int} {l : List Ck} {k : Nat} {d : ByteArray} (hx : l.getD k ck0 = (x, d)) : pe nx l (k + 1) = x + d.size := by unfold pe; rw [if_neg (by omega), Nat.add_sub_cancel, hx]
theorem okC_cases (e x : Int) (d : ByteArray) : (x ≤ e ∧ okC e x d = false) ∨ (e < x ∧ d.size = 0 ∧ okC e x d = false) ∨ (e < x ∧ 0 < d.size ∧ 4611686018427387903 - (d.size : Int) < x ∧ okC e x d = false) ∨ (e < x ∧ 0 < d.size ∧ x ≤ 4611686018427387903 - (d.size : Int) ∧ okC e x d = true) := by
  by_cases h1 : x ≤ e
  · left; exact ⟨h1, by unfold okC; have : decide (e < x) = false := by simp; omega
                        simp [this]⟩
  · by_cases h2 : d.size = 0
    · right; left; exact ⟨by omega, h2, by unfold okC; simp [h2]⟩
    · by_cases h3 : x ≤ 4611686018427387903 - (d.size : Int)
      · right; right; right; exact ⟨by omega, by omega, h3, by unfold okC; simp; omega⟩
      · right; right; left; exact ⟨by omega, by omega, by omega, by unfold okC; simp; omega⟩
theorem dempty {d : ByteArray} : d.toList.isEmpty = decide (d.size = 0) := by
  rw [ByteArray.toList_eq]
  obtain ⟨⟨l⟩⟩ := d
  cases l <;> simp [ByteArray.size]
theorem iEnd (x : Int) (d : ByteArray) (h1 : -9223372036854775808 ≤ x + (d.size : Int)) (h2 : x + (d.size : Int) ≤ 9223372036854775807) (w : World) : Calls Try.prog 34 #[.agg #[.int .i64 x, .string d]] w fun e w' => e = .returned (.int .i64 (x + (d.size : Int))) ∧ Below w.heap.size w w' := by
  go_enter Try.func34, Try.ntmps34
  go_wp2
  go_ret
  exact ⟨rfl, (Below.refl _ _).alloc (Nat.le_refl _) _⟩
set_option maxHeartbeats 1000000 in
theorem iIsB {A : Option Addr} {c n : Nat} {w : World} {B : Nat} {l : List Ck} (nx : Int) (hB : B ≤ w.heap.size) (hr : Rd w B A (encC l)) (hm : n ≤ 1048576) (HL : Hid (l.length = n)) (hd : ∀ k, k < n → (l.getD k ck0).2.size ≤ 1048576) (hw : ∀ k, k < n → (Lit.int .i64 (l.getD k ck0).1).wf = true) :
    Calls Try.prog 21 #[.agg #[.int .i64 nx, .slice A n c]] w fun e w' => e = .returned (.bool (isBf nx l)) ∧ Below w.heap.size w w' := by
  have HD := Lib.hid hd; clear hd
  have HW := Lib.hid hw; clear hw
  have hb0 := bbox w (.int .i64 nx) (.slice A n c) 28
  cases hq : qB nx
  · go_enter Try.func21, Try.ntmps21
    go_wp2_with (first | (go_at_call 42; refine (isQuic_any _ _).mono ?_; rintro e w' ⟨rfl, rfl⟩))
    go_ret
    exact ⟨ret_bool (isBf_out hq).symm, hb0⟩
  · obtain ⟨hn0, hn1⟩ := qB_true hq
    go_enter Try.func21, Try.ntmps21
    go_wp2_with (first | (go_at_call 42; refine (isQuic_any _ _).mono ?_; rintro e w' ⟨rfl, rfl⟩))
    generalize w.alloc (.cells #[.int .i64 nx, .slice A n c] 28) = w0 at hb0 ⊢
    go_loopw [3, 15] (fun e i wr => ∃ (k : Nat) (y : Int), k ≤ n ∧ i = .int .i64 k ∧ e = .int .i64 y ∧ pe nx l k = y - 1 ∧ 0 ≤ y ∧ y ≤ 4611686018427387904 ∧ GoodTo nx l k ∧ Below w.heap.size w wr) (fun _ i _ => n - (intOf i).toNat)
    case atStart => exact ⟨0, nx, Nat.zero_le _, rfl, rfl, pe_zero nx l, by omega, by omega, fun j hj => by omega, hb0⟩
    case round =>
      obtain ⟨k, y, hk, rfl, rfl, hpe, hy0, hy1, hg, hbw⟩ := hrel
      have HG := Lib.hid hg; clear hg
      have HP := Lib.hid hpe; clear hpe
      clear hb0
      by_cases hlt : k < n
      · obtain ⟨b, off1, x, d, rfl, hb, HX, c0, c1⟩ := (hr.below hbw hB).chk (k := k) (by rw [HL.out]; exact hlt)
        have hdd : d.size ≤ 1048576 := by have := HD.out k hlt; rw [HX.out] at this; exact this
        have hwx := HW.out k hlt
        rw [HX.out] at hwx
        have hx1 : x ≤ 9223372036854775807 ∧ -9223372036854775808 ≤ x := by simp [Lit.wf, IntKind.min, IntKind.max, IntKind.signed, IntKind.bits] at hwx; omega
        have hxa := hx1.1; have hxb := hx1.2; clear hx1 hwx
        have hb1 := hbw.alloc hbw.size (.cells #[.int .i64 x, .string d] 46)
        rcases okC_cases (y - 1) x d with ⟨h1, h2⟩ | ⟨h1, h3, h2⟩ | ⟨h1, h3, h4, h2⟩ | ⟨h1, h3, h4, h2⟩
        · have HV := Lib.hid (isBf_bad (by rw [HL.out]; exact hlt) HX.out (by rw [HP.out]; exact h2))
          clear h2
          have hxy : x < y := by omega
          have hdx : decide (x < y) = true := by simpa using hxy
          by_cases hz : d.size = 0
          · have hz1 : ((d.size : Int) == 0) = true := by rw [beq_iff_eq]; omega
            clear hz
            go_wp2
            go_ret
            exact ⟨ret_bool HV.out.symm, hb1⟩
          · have hz1 : ((d.size : Int) == 0) = false := by rw [beq_eq_false_iff_ne]; omega
            go_wp2
            go_ret
            exact ⟨ret_bool HV.out.symm, hb1⟩
        · have HV := Lib.hid (isBf_bad (by rw [HL.out]; exact hlt) HX.out (by rw [HP.out]; exact h2))
          clear h2
          have hz1 : ((d.size : Int) == 0) = true := by rw [beq_iff_eq]; omega
          clear h3
          go_wp2
          go_ret
          exact ⟨ret_bool HV.out.symm, hb1⟩
        · have HV := Lib.hid (isBf_bad (by rw [HL.out]; exact hlt) HX.out (by rw [HP.out]; exact h2))
          clear h2
          have hz1 : ((d.size : Int) == 0) = false := by rw [beq_eq_false_iff_ne]; omega
          have hdx : decide (x < y) = false := by simp; omega
          have hdm : decide (4611686018427387903 - (d.size : Int) < x) = true := by simp; omega
          go_wp2
          go_ret
          exact ⟨ret_bool HV.out.symm, hb1⟩
        · have HG2 := Lib.hid (HG.out.next HX.out (by rw [HP.out]; exact h2))
          have HP2 := Lib.hid (pe_succ (nx := nx) HX.out)
          clear h2
          have hz1 : ((d.size : Int) == 0) = false := by rw [beq_eq_false_iff_ne]; omega
          have hdx : decide (x < y) = false := by simp; omega
          have hdm : decide (4611686018427387903 - (d.size : Int) < x) = false := by simp; omega
          go_wp2_with fail
          refine (iEnd x d (by omega) (by omega) _).mono ?_
          rintro e w2 ⟨rfl, hb2⟩
          replace hb2 := below_next hb1 hb1.size hb2
          obtain ⟨z, hz⟩ : ∃ z, x + (d.size : Int) = z := ⟨_, rfl⟩
          rw [hz]
          have hz3 : 0 ≤ z ∧ z ≤ 4611686018427387903 := by omega
          have hza := hz3.1; have hzb := hz3.2; clear hz3
          have HZ := Lib.hid hz; clear hz
          go_wp2
          go_roundw
          case rel => exact ⟨k + 1, z + 1, by omega, by go_num, by go_num, by rw [HP2.out, HZ.out]; omega, by omega, by omega, HG2.out, hb2⟩
          case measure => simp [intOf]; omega
      · obtain rfl : k = n := by omega
        have HV := Lib.hid (HG.out.done HL.out)
        go_wp2
        go_ret
        exact ⟨ret_bool (by rw [HV.out, hq]), hbw⟩
set_option maxHeartbeats 2000000 in
theorem sIsB {A : Option Addr} {c n : Nat} {w : World} {B : Nat} {l : List Ck} (nx : Int) (hnx : (Lit.int .i64 nx).wf = true) (hB : B ≤ w.heap.size) (hr : Rd w B A (encC l)) (hm : n ≤ 1048576) (HL : Hid (l.length = n)) (hd : ∀ k, k < n → (l.getD k ck0).2.size ≤ 1048576) (hw : ∀ k, k < n → (Lit.int .i64 (l.getD k ck0).1).wf = true) :
    Calls Try.prog 18 #[.agg #[.int .i64 nx, .slice A n c]] w fun e w' => e = .returned (.bool (isBf nx l)) ∧ Below w.heap.size w w' := by
  have HD := Lib.hid hd; clear hd
  have HW := Lib.hid hw; clear hw
  have hb0 := bbox w (.int .i64 nx) (.slice A n c) 28
  have hk0 : Bk (w.alloc (.cells #[.int .i64 nx, .slice A n c] 28)) w.heap.size 28 #[.int .i64 nx, .slice A n c] := heap_alloc_new w _
  have hnn : nx ≤ 9223372036854775807 ∧ -9223372036854775808 ≤ nx := by simp [Lit.wf, IntKind.min, IntKind.max, IntKind.signed, IntKind.bits] at hnx; omega
  have hna := hnn.1; have hnb := hnn.2; clear hnn hnx
  by_cases hmin : -9223372036854775808 < nx
  · skip
    go_enter Try.func18, Try.ntmps18
    go_wp2_with fail
    generalize w.alloc (.cells #[.int .i64 nx, .slice A n c] 28) = w0 at hb0 hk0 ⊢
    have HK0 := Lib.hid hk0; clear hk0
    go_loopw [3, 4, 5] (fun e i _ wr => ∃ (k : Nat) (y : Int), k ≤ n ∧ i = .int .i64 k ∧ e = .int .i64 y ∧ -9223372036854775808 ≤ y ∧ y ≤ 9223372036854775807 ∧ (qB nx = true → pe nx l k = y ∧ GoodTo nx l k) ∧ Below w.heap.size w wr ∧ Bk wr w.heap.size 28 #[.int .i64 nx, .slice A n c]) (fun _ i _ _ => n - (intOf i).toNat)
    case atStart => exact ⟨0, nx - 1, Nat.zero_le _, rfl, rfl, by omega, by omega, (fun _ => ⟨pe_zero nx l, fun j hj => by omega⟩), hb0, HK0.out⟩
    case round =>
      obtain ⟨k, y, hk, rfl, rfl, hy0, hy1, hg, hbw, hkw⟩ := hrel
      have HG := Lib.hid hg; clear hg
      clear hb0 HK0
      obtain ⟨b0, b1⟩ := hkw.two
      have HK := Lib.hid hkw; clear hkw
      by_cases hlt : k < n
      · obtain ⟨b, off1, x, d, rfl, hb, HX, c0, c1⟩ := (hr.below hbw hB).chk (k := k) (by rw [HL.out]; exact hlt)
        have hdd : d.size ≤ 1048576 := by have := HD.out k hlt; rw [HX.out] at this; exact this
        have hwx := HW.out k hlt
        rw [HX.out] at hwx
        have hx1 : x ≤ 9223372036854775807 ∧ -9223372036854775808 ≤ x := by simp [Lit.wf, IntKind.min, IntKind.max, IntKind.signed, IntKind.bits] at hwx; omega
        have hxa := hx1.1; have hxb := hx1.2; clear hx1 hwx
        have hb1 := hbw.alloc hbw.size (.cells #[.int .i64 x, .string d] 46)
        have HK2 := Lib.hid (HK.out.below ((Below.refl _ _).alloc (Nat.le_refl _) (.cells #[.int .i64 x, .string d] 46)) HK.out.lt)
        have bad : okC y x d = false → isBf nx l = false := fun h2 => by
          cases hq : qB nx
          · exact isBf_out hq
          · exact isBf_bad (by rw [HL.out]; exact hlt) HX.out (by rw [(HG.out hq).1]; exact h2)
        have hde := dempty (d := d)
        rcases okC_cases y x d with ⟨h1, h2⟩ | ⟨h1, h3, h2⟩ | ⟨h1, h3, h4, h2⟩ | ⟨h1, h3, h4, h2⟩
        · have HV := Lib.hid (bad h2)
          clear h2 bad hde
          have hdx : decide (x ≤ y) = true := by simpa using h1
          go_wp2
          go_ret
          exact ⟨ret_bool HV.out.symm, hb1⟩
        · have HV := Lib.hid (bad h2)
          have hz1 : d.toList.isEmpty = true := by rw [hde]; simpa using h3
          clear h2 bad hde h3
          have hdx : decide (x ≤ y) = false := by simp; omega
          go_wp2
          go_ret
          exact ⟨ret_bool HV.out.symm, hb1⟩
        · have HV := Lib.hid (bad h2)
          have hz1 : d.toList.isEmpty = false := by rw [hde, decide_eq_false_iff_not]; omega
          clear h2 bad hde
          have hdx : decide (x ≤ y) = false := by simp; omega
          have hdm : decide (4611686018427387903 - (d.size : Int) < x) = true := by simp; omega
          go_wp2
          go_ret
          exact ⟨ret_bool HV.out.symm, hb1⟩
        · have HG2 := Lib.hid (show qB nx = true → pe nx l (k + 1) = x + d.size ∧ GoodTo nx l (k + 1) from fun hq => ⟨pe_succ HX.out, (HG.out hq).2.next HX.out (by rw [(HG.out hq).1]; exact h2)⟩)
          have hz1 : d.toList.isEmpty = false := by rw [hde, decide_eq_false_iff_not]; omega
          clear h2 bad hde
          have hdx : decide (x ≤ y) = false := by simp; omega
          have hdm : decide (4611686018427387903 - (d.size : Int) < x) = false := by simp; omega
          have hs0 : -9223372036854775808 ≤ x + (d.size : Int) := by omega
          have hs1 : x + (d.size : Int) ≤ 9223372036854775807 := by omega
          go_wp2
          go_roundw
          case rel => exact ⟨k + 1, x + d.size, by omega, by go_num, by go_num, hs0, hs1, HG2.out, hb1, HK2.out⟩
          case measure => simp [intOf]; omega
      · obtain rfl : k = n := by omega
        have HV := Lib.hid (show isBf nx l = qB nx from by
          cases hq : qB nx
          · exact isBf_out hq
          · rw [(HG.out hq).2.done HL.out, hq])
        go_wp2_with (first | (go_at_call 41; refine (l4Quic_any _ _).mono ?_; rintro e w' ⟨rfl, rfl⟩))
        go_ret
        exact ⟨ret_bool HV.out.symm, hbw⟩
  · obtain rfl : nx = -9223372036854775808 := by omega
    go_enter Try.func18, Try.ntmps18
    go_wp2_with fail
    generalize w.alloc (.cells #[.int .i64 (-9223372036854775808 : Int), .slice A n c] 28) = w0 at hb0 hk0 ⊢
    have HK0 := Lib.hid hk0; clear hk0
    go_loopw [3, 4, 5] (fun e i _ wr => ∃ (k : Nat) (y : Int), k ≤ n ∧ i = .int .i64 k ∧ e = .int .i64 y ∧ -9223372036854775808 ≤ y ∧ y ≤ 9223372036854775807 ∧ (qB (-9223372036854775808 : Int) = true → pe (-9223372036854775808 : Int) l k = y ∧ GoodTo (-9223372036854775808 : Int) l k) ∧ Below w.heap.size w wr ∧ Bk wr w.heap.size 28 #[.int .i64 (-9223372036854775808), .slice A n c]) (fun _ i _ _ => n - (intOf i).toNat)
    case atStart => exact ⟨0, 9223372036854775807, Nat.zero_le _, rfl, congrArg (Value.int .i64) (by unfold wrap64; omega), by omega, by omega, (fun hq => absurd hq (by decide)), hb0, HK0.out⟩
    case round =>
      obtain ⟨k, y, hk, rfl, rfl, hy0, hy1, hg, hbw, hkw⟩ := hrel
      have HG := Lib.hid hg; clear hg
      clear hb0 HK0
      obtain ⟨b0, b1⟩ := hkw.two
      have HK := Lib.hid hkw; clear hkw
      by_cases hlt : k < n
      · obtain ⟨b, off1, x, d, rfl, hb, HX, c0, c1⟩ := (hr.below hbw hB).chk (k := k) (by rw [HL.out]; exact hlt)
        have hdd : d.size ≤ 1048576 := by have := HD.out k hlt; rw [HX.out] at this; exact this
        have hwx := HW.out k hlt
        rw [HX.out] at hwx
        have hx1 : x ≤ 9223372036854775807 ∧ -9223372036854775808 ≤ x := by simp [Lit.wf, IntKind.min, IntKind.max, IntKind.signed, IntKind.bits] at hwx; omega
        have hxa := hx1.1; have hxb := hx1.2; clear hx1 hwx
        have hb1 := hbw.alloc hbw.size (.cells #[.int .i64 x, .string d] 46)
        have HK2 := Lib.hid (HK.out.below ((Below.refl _ _).alloc (Nat.le_refl _) (.cells #[.int .i64 x, .string d] 46)) HK.out.lt)
        have bad : okC y x d = false → isBf (-9223372036854775808 : Int) l = false := fun h2 => by
          cases hq : qB (-9223372036854775808 : Int)
          · exact isBf_out hq
          · exact isBf_bad (by rw [HL.out]; exact hlt) HX.out (by rw [(HG.out hq).1]; exact h2)
        have hde := dempty (d := d)
        rcases okC_cases y x d with ⟨h1, h2⟩ | ⟨h1, h3, h2⟩ | ⟨h1, h3, h4, h2⟩ | ⟨h1, h3, h4, h2⟩
        · have HV := Lib.hid (bad h2)
          clear h2 bad hde
          have hdx : decide (x ≤ y) = true := by simpa using h1
          go_wp2
          go_ret
          exact ⟨ret_bool HV.out.symm, hb1⟩
        · have HV := Lib.hid (bad h2)
          have hz1 : d.toList.isEmpty = true := by rw [hde]; simpa using h3
          clear h2 bad hde h3
          have hdx : decide (x ≤ y) = false := by simp; omega
          go_wp2
          go_ret
          exact ⟨ret_bool HV.out.symm, hb1⟩
        · have HV := Lib.hid (bad h2)
          have hz1 : d.toList.isEmpty = false := by rw [hde, decide_eq_false_iff_not]; omega
          clear h2 bad hde
          have hdx : decide (x ≤ y) = false := by simp; omega
          have hdm : decide (4611686018427387903 - (d.size : Int) < x) = true := by simp; omega
          go_wp2
          go_ret
          exact ⟨ret_bool HV.out.symm, hb1⟩
        · have HG2 := Lib.hid (show qB (-9223372036854775808 : Int) = true → pe (-9223372036854775808 : Int) l (k + 1) = x + d.size ∧ GoodTo (-9223372036854775808 : Int) l (k + 1) from fun hq => ⟨pe_succ HX.out, (HG.out hq).2.next HX.out (by rw [(HG.out hq).1]; exact h2)⟩)
          have hz1 : d.toList.isEmpty = false := by rw [hde, decide_eq_false_iff_not]; omega
          clear h2 bad hde
          have hdx : decide (x ≤ y) = false := by simp; omega
          have hdm : decide (4611686018427387903 - (d.size : Int) < x) = false := by simp; omega
          have hs0 : -9223372036854775808 ≤ x + (d.size : Int) := by omega
          have hs1 : x + (d.size : Int) ≤ 9223372036854775807 := by omega
          go_wp2
          go_roundw
          case rel => exact ⟨k + 1, x + d.size, by omega, by go_num, by go_num, hs0, hs1, HG2.out, hb1, HK2.out⟩
          case measure => simp [intOf]; omega
      · obtain rfl : k = n := by omega
        have HV := Lib.hid (show isBf (-9223372036854775808 : Int) l = qB (-9223372036854775808 : Int) from by
          cases hq : qB (-9223372036854775808 : Int)
          · exact isBf_out hq
          · rw [(HG.out hq).2.done HL.out, hq])
        go_wp2_with (first | (go_at_call 41; refine (l4Quic_any _ _).mono ?_; rintro e w' ⟨rfl, rfl⟩))
        go_ret
        exact ⟨ret_bool HV.out.symm, hbw⟩
end Go.Proofs.Ytnndhkdigmkddaa
