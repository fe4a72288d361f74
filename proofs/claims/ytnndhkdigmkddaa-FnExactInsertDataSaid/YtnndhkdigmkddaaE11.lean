/- BufferRanges: one contract for each package. No conditions. -/
import Derived.Test.YtnndhkdigmkddaaE5
import Derived.Test.YtnndhkdigmkddaaE9
import Derived.Deep.RegionHeld3
import Derived.Deep.AppendLies
namespace Go.Proofs.Ytnndhkdigmkddaa
open Go.ChangeShapes Go.WideShapes Go.ChangeAt Go.RowKit Go.Sort
set_option linter.unusedVariables false
set_option linter.unusedSimpArgs false
theorem info_rng : (Try.prog.info? 54).map (fun i => (i.zero, i.size, i.bytes)) = some (some (.agg #[.int .i64 0, .int .i64 0]), 2, 16) := by kernel_rfl
def rgT (l : List Ck) (k : Nat) : List R := (l.take k).map fun c => (c.1, c.1 + (c.2.size : Int))
theorem rgT_zero (l : List Ck) : rgT l 0 = [] := by simp [rgT]
theorem rgT_len (l : List Ck) (k : Nat) (h : k ≤ l.length) : (rgT l k).length = k := by simp [rgT]; omega
theorem encR_snoc (L : List R) (x y : Int) : encR (L ++ [(x, y)]) = encR L ++ [.int .i64 x, .int .i64 y] := by simp [encR]
theorem rgT_succ {l : List Ck} {k : Nat} {x : Int} {d : ByteArray} (h : k < l.length) (hx : l.getD k ck0 = (x, d)) : rgT l (k + 1) = rgT l k ++ [(x, x + (d.size : Int))] := by
  unfold rgT
  rw [List.take_succ_eq_append_getElem h]
  have : l[k] = (x, d) := by rw [← hx, List.getD_eq_getElem?_getD, List.getElem?_eq_getElem h, Option.getD_some]
  simp [this]
def rgB (nx : Int) (l : List Ck) : List R := if isBf nx l then rgT l l.length else []
theorem rgB_no {nx : Int} {l : List Ck} (h : isBf nx l = false) : rgB nx l = [] := by simp [rgB, h]
theorem rgB_yes {nx : Int} {l : List Ck} {n : Nat} (h : isBf nx l = true) (hn : l.length = n) : rgB nx l = rgT l n := by simp [rgB, h, hn]
theorem isBf_at' {nx x : Int} {l : List Ck} {k : Nat} {d : ByteArray} (hb : isBf nx l = true) (hk : k < l.length) (hx : l.getD k ck0 = (x, d)) : x ≤ 4611686018427387903 - (d.size : Int) := by
  unfold isBf at hb
  simp only [Bool.and_eq_true, List.all_eq_true] at hb
  have h := hb.2 k (List.mem_range.2 hk)
  unfold okB okC at h
  rw [hx] at h
  simp at h
  exact h.2.2
theorem rgB_len (nx : Int) (l : List Ck) : (rgB nx l).length ≤ l.length := by
  unfold rgB; split
  · rw [rgT_len l l.length (Nat.le_refl _)]; exact Nat.le_refl _
  · exact Nat.zero_le _
/-- What BufferRanges hands back. -/
def OutB (w : World) (L : List R) (e : Ending) (w' : World) : Prop := ∃ A c, e = .returned (.slice A L.length c) ∧ Below w.heap.size w w' ∧ w'.ownsRow w.heap.size 54 2 (.slice A L.length c) L.length (encR L)
theorem OutB.of_own {w w' : World} {L M : List R} {v : Value} {n : Nat} (hb : Below w.heap.size w w') (h : w'.ownsRow w.heap.size 54 2 v n (encR L)) (hn : n = L.length) (hL : M = L) : OutB w M (.returned v) w' := by
  obtain ⟨A, c, rfl, _, _⟩ := Rd.of_own h
  subst hL
  subst hn
  exact ⟨A, c, rfl, hb, h⟩
theorem rown_empty (w : World) (base : Nat) (T : TypeId) (size : Nat) (hb : base ≤ w.heap.size) : (w.alloc (.cells #[] T)).ownsRow base T size (.slice (some ⟨w.heap.size, 0, none⟩) 0 0) 0 [] :=
  World.ownsRow_made w #[] 0 hb (by unfold maxLen; omega) (by simp)
theorem rgB_exit {nx : Int} {l : List Ck} {k n : Nat} (hn : l.length = n) (hk : 0 < k → isBf nx l = true) (he : k = n ∨ isBf nx l = false) : rgB nx l = rgT l k := by
  cases hq : isBf nx l
  · rw [rgB_no hq]
    have : k = 0 := by
      by_cases h : 0 < k
      · rw [hk h] at hq; cases hq
      · omega
    rw [this, rgT_zero]
  · rcases he with rfl | h
    · exact rgB_yes hq hn
    · rw [hq] at h; cases h
set_option maxRecDepth 20000 in
set_option maxHeartbeats 1000000 in
theorem sBR {A : Option Addr} {c n : Nat} {w : World} {B : Nat} {l : List Ck} (nx : Int) (hnx : (Lit.int .i64 nx).wf = true) (hB : B ≤ w.heap.size) (hr : Rd w B A (encC l)) (hm : n ≤ 1048576) (HL : Hid (l.length = n)) (hd : ∀ k, k < n → (l.getD k ck0).2.size ≤ 1048576) (hw : ∀ k, k < n → (Lit.int .i64 (l.getD k ck0).1).wf = true) :
    Calls Try.prog 31 #[.agg #[.int .i64 nx, .slice A n c]] w (OutB w (rgB nx l)) := by
  obtain ⟨i0, hi, hz0, hz1, hz2⟩ := info_parts info_rng
  obtain ⟨W, hW⟩ : ∃ W, W = (w.alloc (.cells #[.int .i64 nx, .slice A n c] 28)).alloc (.cells #[] 54) := ⟨_, rfl⟩
  have hb0 : Below w.heap.size w W := by rw [hW]; exact ((Below.refl _ _).alloc (Nat.le_refl _) _).alloc (by simp) _
  have hk0 : Bk W w.heap.size 28 #[.int .i64 nx, .slice A n c] := by
    have h1 : Bk (w.alloc (.cells #[.int .i64 nx, .slice A n c] 28)) w.heap.size 28 #[.int .i64 nx, .slice A n c] := heap_alloc_new w _
    rw [hW]; exact h1.below ((Below.refl _ _).alloc (Nat.le_refl _) _) h1.lt
  have ho0 : W.ownsRow (w.heap.size + 1) 54 2 (.slice (some ⟨w.heap.size + 1, 0, none⟩) 0 0) 0 [] := by
    have h := rown_empty (w.alloc (.cells #[.int .i64 nx, .slice A n c] 28)) (w.heap.size + 1) 54 2 (by simp)
    rw [hW]; simpa using h
  have HD := Lib.hid hd; clear hd
  have HW := Lib.hid hw; clear hw
  go_enter Try.func31, Try.ntmps31
  go_wp2_with fail
  rw [← hW]
  clear hW
  have HO0 := Lib.hid ho0; have HK0 := Lib.hid hk0; clear ho0 hk0
  go_loopw [3, 4] (fun v i wr => ∃ k : Nat, k ≤ n ∧ i = .int .i64 k ∧ wr.ownsRow (w.heap.size + 1) 54 2 v k (encR (rgT l k)) ∧ (0 < k → isBf nx l = true) ∧ Below w.heap.size w wr ∧ Bk wr w.heap.size 28 #[.int .i64 nx, .slice A n c]) (fun v i _ => n - (intOf i).toNat)
  case atStart => exact ⟨0, Nat.zero_le _, rfl, by rw [rgT_zero]; exact HO0.out, fun h => absurd h (by decide), hb0, HK0.out⟩
  case round =>
    obtain ⟨k, hk, rfl, ho, hkq, hbw, hkw⟩ := hrel
    have HO := Lib.hid ho; clear ho
    have HKQ := Lib.hid hkq; clear hkq
    clear hb0 HK0 HO0
    have hcI := sIsB (A := A) (c := c) (w := wr) nx hnx (B := w.heap.size) hbw.size ((hr.below hbw hB).more hB) hm HL HD.out HW.out
    by_cases hlt : k < n
    · obtain ⟨b0, b1⟩ := hkw.two
      cases hq : isBf nx l
      · rw [hq] at hcI
        have HX := Lib.hid (rgB_exit (k := k) HL.out HKQ.out (.inr hq))
        go_wp2_with fail
        refine hcI.mono ?_
        rintro e w1 ⟨rfl, hb1⟩
        have ho1 := own_step HO.out hb1
        replace hb1 := below_next hbw hbw.size hb1
        go_wp2
        go_ret
        exact OutB.of_own (L := rgT l k) hb1 (own_lower ho1 (Nat.le_succ _)) (by rw [rgT_len l k (by rw [HL.out]; exact hk)]) HX.out
      · rw [hq] at hcI
        have HQ := Lib.hid hq; clear hq
        go_wp2_with fail
        refine hcI.mono ?_
        rintro e w1 ⟨rfl, hb1⟩
        have ho1 := own_step HO.out hb1
        have hk1 := hkw.below hb1 hkw.lt
        replace hb1 := below_next hbw hbw.size hb1
        clear b0 b1 hkw hbw HO
        have HO := Lib.hid ho1; clear ho1
        obtain ⟨b0, b1⟩ := hk1.two
        obtain ⟨b, off1, x, d, rfl, hb, HX, c0, c1⟩ := (hr.below hb1 hB).chk (k := k) (by rw [HL.out]; exact hlt)
        have hdd : d.size ≤ 1048576 := by have := HD.out k hlt; rw [HX.out] at this; exact this
        have hwx := HW.out k hlt
        rw [HX.out] at hwx
        have hx1 : x ≤ 9223372036854775807 ∧ -9223372036854775808 ≤ x := by simp [Lit.wf, IntKind.min, IntKind.max, IntKind.signed, IntKind.bits] at hwx; omega
        have hxb := hx1.2; clear hx1 hwx
        have hxa := isBf_at' HQ.out (by rw [HL.out]; exact hlt) HX.out
        have HS := Lib.hid (rgT_succ (l := l) (by rw [HL.out]; exact hlt) HX.out)
        have hk0i : (0 : Int) ≤ (k : Int) := by omega
        have hk1i : (k : Int) < (n : Int) := by omega
        obtain ⟨z, hz⟩ : ∃ z, x + (d.size : Int) = z := ⟨_, rfl⟩
        have hsum : IntKind.i64.wrap z = z := by rw [IntKind.wrap_i64]; omega
        rw [hz] at HS
        have hl1 := hk1.lt
        have hlb : b < w1.heap.size := World.block_lt_of_cell? _ _ c0
        have hbL := hb1.size
        have al := ((Below.refl w1.heap.size w1).alloc (Nat.le_refl _) (.cells #[.int .i64 x, .int .i64 z] 54)).drew
        have u0 := (al.cell (p := ⟨w.heap.size, 1, none⟩) hl1).trans b1
        have u1 := (al.cell (p := ⟨b, off1 + k * 2, none⟩) hlb).trans c0
        have u2 := (al.cell (p := ⟨b, off1 + k * 2 + 1, none⟩) hlb).trans c1
        have hbase2 : w.heap.size + 1 ≤ ((w1.alloc (.cells #[.int .i64 x, .int .i64 z] 54)).drew).heap.size := by
          show w.heap.size + 1 ≤ (w1.heap.push _).size
          rw [Array.size_push]; omega
        have hnb : ∀ e : Nat, Value.ownBlock u3 = some e → b ≠ e ∧ w.heap.size ≠ e := fun e he => ⟨by have := (HO.out.lt e he).1; omega, by have := (HO.out.lt e he).1; omega⟩
        go_wp2_with fail
        go_region_held3 (fun w' => w'.cell? ⟨w.heap.size, 1, none⟩ = some (.slice (some ⟨b, off1, none⟩) n c) ∧ w'.cell? ⟨b, off1 + k * 2, none⟩ = some (.int .i64 x) ∧ w'.cell? ⟨b, off1 + k * 2 + 1, none⟩ = some (.string d))
          (first | exact ⟨b1, c0, c1⟩ | exact ⟨u0, u1, u2⟩ | exact ⟨v0, v1, v2⟩ | go_keep)
          (first
            | (refine step_append_lies _ (by rfl) _ _ _ (by rfl) (w.heap.size + 1) 54 i0 _ 2 16 Try.underlying50 hi hz0 hz1 hz2 rfl (by omega) _ _ _ (by rfl) ((HO.out.alloc _).drew) ⟨w1.heap.size, 0, none⟩ 1 1 [.int .i64 x, .int .i64 z] (by rfl) (by rfl) (World.news_of_block (cs := #[.int .i64 x, .int .i64 z]) (t := 54) (fr := (0, 0)) (heap_alloc_new w1 _)) (by simp [Value.oneCell']) (by omega) (by unfold maxLen; omega) (by omega) hbase2 (w1.heap.size + 1) (by simp) ?_; intro gg1 cap1 w3 hown3 hgrow3 hat3 hlt3; have v0 := hgrow3.cell (a := ⟨w.heap.size, 1, none⟩) u0 (fun e => (hnb w.heap.size e.symm).2 rfl); have v1 := hgrow3.cell (a := ⟨b, off1 + k * 2, none⟩) u1 (fun e => (hnb b e.symm).1 rfl); have v2 := hgrow3.cell (a := ⟨b, off1 + k * 2 + 1, none⟩) u2 (fun e => (hnb b e.symm).1 rfl)))
        have hk3 : Bk w3 w.heap.size 28 #[.int .i64 nx, .slice (some ⟨b, off1, none⟩) n c] := (hk1.below al hk1.lt).grown (w := (w1.alloc (.cells #[.int .i64 x, .int .i64 z] 54)).drew) hgrow3 (fun e => (hnb w.heap.size e.symm).2 rfl)
        have hb3 : Below w.heap.size w w3 := ((hb1.alloc hb1.size (.cells #[.int .i64 x, .int .i64 z] 54)).drew).grown hgrow3 (Nat.le_trans (Nat.le_succ _) hbase2) (fun k hk => Nat.le_trans (Nat.le_succ _) (HO.out.lt k hk).1)
        have HO3 := Lib.hid (show w3.ownsRow (w.heap.size + 1) 54 2 (.slice (some ⟨gg1, 0, none⟩) (k + 1) cap1) (k + 1) (encR (rgT l (k + 1))) by rw [HS.out, encR_snoc]; exact hown3)
        have HK3 := Lib.hid hk3
        clear hown3 hgrow3 hat3 hlt3 v0 v1 v2 u0 u1 u2 hk1 hk3 c0 c1 b0 b1 hnb
        go_wp2
        go_roundw
        case rel => exact ⟨k + 1, by omega, by go_num, HO3.out, fun _ => by first | trivial | exact HQ.out, hb3, HK3.out⟩
        case measure => simp [intOf]; omega
    · obtain rfl : k = n := by omega
      have HX := Lib.hid (rgB_exit (k := k) HL.out HKQ.out (.inl rfl))
      obtain ⟨b0, b1⟩ := hkw.two
      go_wp2
      go_ret
      exact OutB.of_own (L := rgT l k) hbw (own_lower HO.out (Nat.le_succ _)) (by rw [rgT_len l k (by rw [HL.out]; exact Nat.le_refl _)]) HX.out
end Go.Proofs.Ytnndhkdigmkddaa
