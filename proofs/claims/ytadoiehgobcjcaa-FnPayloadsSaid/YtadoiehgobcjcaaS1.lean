/- DecodePayload: its contracts. No conditions. -/
import Derived.Test.YtadoiehgobcjcaaR9
import Derived.Test.YtadoiehgobcjcaaP5
namespace Go.Proofs.Ytadoiehgobcjcaa
open Go.ChangeShapes Go.WideShapes Go.ChangeAt Go.RowKit Go.Sort QM
set_option linter.unusedVariables false
set_option linter.unusedSimpArgs false
theorem dfO_facts {s : ByteArray} (hs : s.size ≤ 1048576) {p : Int} {f : Fr} {q : Int} (h : dfO s p = some (f, q)) : f.d.size ≤ 1048576 ∧ 0 ≤ p ∧ p < q ∧ q ≤ s.size ∧ okF f = true := by
  unfold dfO at h
  rw [Option.filter_eq_some_iff] at h
  obtain ⟨h1, h2⟩ := h
  have := frO_facts hs h1
  exact ⟨this.1, this.2.1, by omega, this.2.2.2, h2⟩
/-- All frames from place p on. -/
def dpF (s : ByteArray) : Nat → Nat → Option (List Fr)
  | 0, p => if s.size ≤ p then some [] else none
  | f + 1, p => if s.size ≤ p then some [] else if ((bl s).getD p 0).toNat = 0 then dpF s f (p + 1) else match dfO s p with
    | none => none
    | some (x, q) => (dpF s f q.toNat).map (x :: ·)
def dpAll (s : ByteArray) : Option (List Fr) := dpF s s.size 0
def dpL (s : ByteArray) : List Fr := (dpAll s).getD []
def dpT (s : ByteArray) : Bool := (dpAll s).isSome && (decide (1 ≤ s.size) && decide (s.size ≤ 400))
theorem dpF_end {s : ByteArray} {f p : Nat} (h : s.size ≤ p) : dpF s f p = some [] := by cases f <;> simp [dpF, h]
/-- Where the loop stands: at place p, with the frames L read. -/
def DpAt (s : ByteArray) (p : Nat) (L : List Fr) : Prop := L.length ≤ p ∧ p ≤ s.size ∧ ∃ f, s.size ≤ p + f ∧ dpAll s = (dpF s f p).map (L ++ ·)
theorem DpAt.start (s : ByteArray) : DpAt s 0 [] := ⟨Nat.le_refl _, Nat.zero_le _, s.size, by omega, by simp [dpAll]⟩
theorem DpAt.zero {s : ByteArray} {p : Nat} {L : List Fr} (h : DpAt s p L) (hp : p < s.size) (hd : (s[p]'hp).toNat = 0) : DpAt s (p + 1) L := by
  obtain ⟨hl, _, f, hf, e⟩ := h
  refine ⟨by omega, hp, ?_⟩
  cases f with
  | zero => omega
  | succ f =>
    refine ⟨f, by omega, ?_⟩
    rw [e]
    simp only [dpF]
    rw [if_neg (by omega), bl_getD s p hp, if_pos hd]
theorem DpAt.next {s : ByteArray} {p : Nat} {x : Fr} {q : Int} {L : List Fr} (h : DpAt s p L) (hp : p < s.size) (hd : (s[p]'hp).toNat ≠ 0) (hx : dfO s p = some (x, q)) (h1 : p < q) (h2 : q ≤ s.size) : DpAt s q.toNat (L ++ [x]) := by
  obtain ⟨hl, _, f, hf, e⟩ := h
  refine ⟨by simp; omega, by omega, ?_⟩
  cases f with
  | zero => omega
  | succ f =>
    refine ⟨f, by omega, ?_⟩
    rw [e]
    simp only [dpF]
    rw [if_neg (by omega), bl_getD s p hp, if_neg hd, hx]
    show Option.map (L ++ ·) (Option.map (x :: ·) (dpF s f q.toNat)) = Option.map ((L ++ [x]) ++ ·) (dpF s f q.toNat)
    generalize dpF s f q.toNat = o
    cases o <;> simp
theorem DpAt.fail {s : ByteArray} {p : Nat} {L : List Fr} (h : DpAt s p L) (hp : p < s.size) (hd : (s[p]'hp).toNat ≠ 0) (hx : dfO s p = none) : dpL s = [] ∧ dpT s = false := by
  obtain ⟨hl, _, f, hf, e⟩ := h
  cases f with
  | zero => omega
  | succ f =>
    simp only [dpF] at e
    rw [if_neg (by omega), bl_getD s p hp, if_neg hd, hx] at e
    simp at e
    simp [dpL, dpT, e]
theorem DpAt.done {s : ByteArray} {p : Nat} {L : List Fr} (h : DpAt s p L) (hp : s.size ≤ p) : dpL s = L ∧ dpT s = (decide (1 ≤ s.size) && decide (s.size ≤ 400)) := by
  obtain ⟨hl, _, f, hf, e⟩ := h
  rw [dpF_end hp] at e
  simp at e
  simp [dpL, dpT, e]
/-- What DecodePayload hands back. -/
def OutP (w : World) (s : ByteArray) (e : Ending) (w' : World) : Prop := ∃ A c, e = .returned (.tuple #[.slice A (dpL s).length c, .bool (dpT s)]) ∧ Below w.heap.size w w' ∧ w'.ownsRow w.heap.size 40 9 (.slice A (dpL s).length c) (dpL s).length (encF9 (dpL s))
theorem OutP.of_own {w w' : World} {s : ByteArray} {L : List Fr} {b : Bool} {v : Value} {n : Nat} (hb : Below w.heap.size w w') (h : w'.ownsRow w.heap.size 40 9 v n (encF9 L)) (hn : n = L.length) (hL : dpL s = L ∧ dpT s = b) : OutP w s (.returned (.tuple #[v, .bool b])) w' := by
  obtain ⟨A, c, rfl, _, _⟩ := Rd.of_own h
  obtain ⟨rfl, rfl⟩ := hL
  subst hn
  exact ⟨A, c, rfl, hb, h⟩
theorem encF9_snoc (L : List Fr) (x : Fr) : encF9 (L ++ [x]) = encF9 L ++ frC x := by simp [encF9]
theorem news9 {w : World} {g : Nat} {T : TypeId} (u0 u1 u2 u3 u4 u5 u6 u7 u8 : Value) (hg : g = w.heap.size) : ∀ (j : Nat) (x : Value), [u0, u1, u2, u3, u4, u5, u6, u7, u8][j]? = some x → (w.alloc (.cells #[u0, u1, u2, u3, u4, u5, u6, u7, u8] T)).cell? ((⟨g, 0, none⟩ : Addr).add j) = some x := by
  subst hg
  intro j x hj
  have hk : Bk (w.alloc (.cells #[u0, u1, u2, u3, u4, u5, u6, u7, u8] T)) w.heap.size T #[u0, u1, u2, u3, u4, u5, u6, u7, u8] := heap_alloc_new w _
  have h := (hk.cell j).trans (by simpa using hj)
  have e : (⟨w.heap.size, 0, none⟩ : Addr).add j = ⟨w.heap.size, j, none⟩ := by unfold Addr.add; split <;> simp_all
  rw [e]; exact h
theorem one_9 (f : Fr) : ∀ u ∈ [Value.int .i64 f.a, .int .i64 f.b, .int .i64 f.c, .string f.d, .bool f.e, .int .i64 f.g, .int .i64 f.l, .int .i64 f.m, .bool f.u], u.oneCell' = true := by
  intro u hu
  simp only [List.mem_cons, List.mem_nil_iff, or_false] at hu
  rcases hu with rfl | rfl | rfl | rfl | rfl | rfl | rfl | rfl | rfl <;> rfl
set_option maxRecDepth 20000 in
set_option maxHeartbeats 4000000 in
theorem sDP (s : ByteArray) (hs : s.size ≤ 1048576) (w : World) : Calls Try.prog 44 #[.string s] w (OutP w s) := by
  obtain ⟨i0, hi, hz0, hz1, hz2⟩ := info_parts info_frm
  have HW := Lib.hid (own_empty w w.heap.size 40 9 (Nat.le_refl _))
  have HB := Lib.hid (show Below w.heap.size w (w.alloc (.cells #[] 40)) from (Below.refl _ _).alloc (Nat.le_refl _) _)
  go_enter Try.func44, Try.ntmps44
  go_wp2
  generalize w.alloc (.cells #[] 40) = w1 at HW HB ⊢
  go_loopw [4, 5] (fun v a wr => ∃ (p : Nat) (L : List Fr), a = .int .i64 p ∧ DpAt s p L ∧ wr.ownsRow w.heap.size 40 9 v L.length (encF9 L) ∧ Below w.heap.size w wr) (fun v a _ => s.size - (intOf a).toNat)
  case atStart => exact ⟨0, [], rfl, DpAt.start s, HW.out, HB.out⟩
  case round =>
    obtain ⟨p, L, rfl, hd, ho, hbw⟩ := hrel
    clear HW HB
    have hlp := hd.1
    have HD := Lib.hid hd; clear hd
    have HO := Lib.hid ho; clear ho
    by_cases hlt : p < s.size
    · by_cases hz : (s[p]'hlt).toNat = 0
      · have hk3 : (((s[p]'hlt).toNat : Nat) : Int) = 0 := by omega
        have HN := Lib.hid (HD.out.zero hlt hz); clear hz
        go_wp2_with fail
        go_roundw
        case rel => exact ⟨p + 1, L, by go_num, HN.out, HO.out, hbw⟩
        case measure => simp [intOf]; omega
      · obtain ⟨k, hk⟩ : ∃ k, (s[p]'hlt).toNat = k := ⟨_, rfl⟩
        have hk3 : (((s[p]'hlt).toNat : Nat) : Int) = (k : Int) := by omega
        have hkz : ((k : Int) == 0) = false := by simp; omega
        clear hk
        have HZ := Lib.hid hz; clear hz
        go_wp2_with fail
        refine (sDF s hs p _).mono ?_
        rintro e w2 ⟨hb2, rfl⟩
        have HO2 := Lib.hid (own_step HO.out hb2)
        replace hbw := below_next hbw hbw.size hb2
        clear HO hb2 hk3 hkz
        have HO := HO2; clear HO2
        cases hdf : dfO s p with
        | none =>
          have HN := Lib.hid (HD.out.fail hlt HZ.out hdf); clear hdf
          simp only [dfVal]
          go_wp2_with fail
          go_ret2
          have hoe := own_empty (w2.alloc (.cells #[.int .i64 0, .int .i64 0, .int .i64 0, .string ⟨#[]⟩, .bool false, .int .i64 0, .int .i64 0, .int .i64 0, .bool false] 40)) w.heap.size 40 9 (hbw.alloc hbw.size _).size
          exact OutP.of_own (L := []) ((hbw.alloc hbw.size _).alloc (hbw.alloc hbw.size _).size _) (by simpa [encF9] using hoe) rfl HN.out
        | some x =>
          obtain ⟨⟨xa, xb, xc, xd, xe, xg, xl, xm, xu⟩, q⟩ := x
          obtain ⟨hxd, _, hpq, hqs, _⟩ := dfO_facts hs hdf
          have HN := Lib.hid (HD.out.next hlt HZ.out hdf hpq hqs); clear hdf
          obtain ⟨q, rfl⟩ := Int.eq_ofNat_of_zero_le (show 0 ≤ q by omega)
          simp only [Int.toNat_natCast] at HN
          have hsz := hbw.size
          simp only [dfVal, frA]
          go_wp2_with (at_builtin; refine wpList_append_own _ rfl _ _ 47 rfl w.heap.size 40 i0 (.agg #[.int .i64 0, .int .i64 0, .int .i64 0, .string ⟨#[]⟩, .bool false, .int .i64 0, .int .i64 0, .int .i64 0, .bool false]) 9 80 Try.underlying47 hi hz0 hz1 hz2 rfl (by decide) _ _ _ rfl ((HO.out.alloc _).alloc _) ⟨w2.heap.size + 1, 0, none⟩ 1 1 [.int .i64 xa, .int .i64 xb, .int .i64 xc, .string xd, .bool xe, .int .i64 xg, .int .i64 xl, .int .i64 xm, .bool xu] rfl rfl (news9 _ _ _ _ _ _ _ _ _ (by simp)) (one_9 (⟨xa, xb, xc, xd, xe, xg, xl, xm, xu⟩ : Fr)) (by unfold maxLen; omega) (by omega) (by simp; omega) ?_)
          intro v' w3 hown1 hgrow _
          have hb2 : Below w.heap.size w w3 := ((hbw.alloc hsz (.cells #[.int .i64 xa, .int .i64 xb, .int .i64 xc, .string xd, .bool xe, .int .i64 xg, .int .i64 xl, .int .i64 xm, .bool xu] 40)).alloc (by simp; omega) (.cells #[.int .i64 xa, .int .i64 xb, .int .i64 xc, .string xd, .bool xe, .int .i64 xg, .int .i64 xl, .int .i64 xm, .bool xu] 40)).grown hgrow (by simp; omega) (fun k hk => (HO.out.lt k hk).1)
          have HO1 := Lib.hid (show w3.ownsRow w.heap.size 40 9 v' (L ++ [(⟨xa, xb, xc, xd, xe, xg, xl, xm, xu⟩ : Fr)]).length (encF9 (L ++ [(⟨xa, xb, xc, xd, xe, xg, xl, xm, xu⟩ : Fr)])) by rw [encF9_snoc]; simpa [frC] using hown1)
          clear hown1 hgrow HO
          have hpk' : p < q := by omega
          go_wp2
          go_roundw
          case rel => exact ⟨q, L ++ [(⟨xa, xb, xc, xd, xe, xg, xl, xm, xu⟩ : Fr)], by go_num, HN.out, HO1.out, hb2⟩
          case measure => simp [intOf]; omega
    · have hdn := HD.out.done (by omega)
      by_cases h1 : (1 : Int) ≤ (s.size : Int)
      · have d1 : decide ((1 : Int) ≤ (s.size : Int)) = true := by simp; omega
        by_cases h2 : (s.size : Int) ≤ 400
        · have d2 : decide ((s.size : Int) ≤ 400) = true := by simp; omega
          have HN : Hid (dpL s = L ∧ dpT s = true) := ⟨hdn.1, by rw [hdn.2]; simp; omega⟩
          clear hdn
          go_wp2_with (first | (go_at_call 67; go_in))
          go_ret2
          exact OutP.of_own hbw HO.out rfl HN.out
        · have d2 : decide ((s.size : Int) ≤ 400) = false := by simp; omega
          have HN : Hid (dpL s = L ∧ dpT s = false) := ⟨hdn.1, by rw [hdn.2]; simp; omega⟩
          clear hdn
          go_wp2_with (first | (go_at_call 67; go_in))
          go_ret2
          exact OutP.of_own hbw HO.out rfl HN.out
      · have d1 : decide ((1 : Int) ≤ (s.size : Int)) = false := by simp; omega
        have HN : Hid (dpL s = L ∧ dpT s = false) := ⟨hdn.1, by rw [hdn.2]; simp; omega⟩
        clear hdn
        go_wp2_with (first | (go_at_call 67; go_in))
        go_ret2
        exact OutP.of_own hbw HO.out rfl HN.out
set_option maxRecDepth 20000 in
set_option maxHeartbeats 4000000 in
theorem iDP (s : ByteArray) (hs : s.size ≤ 1048576) (w : World) : Calls Try.prog 40 #[.string s] w (OutP w s) := by
  obtain ⟨i0, hi, hz0, hz1, hz2⟩ := info_parts info_frm
  have HW := Lib.hid (own_empty w w.heap.size 40 9 (Nat.le_refl _))
  have HB := Lib.hid (show Below w.heap.size w (w.alloc (.cells #[] 40)) from (Below.refl _ _).alloc (Nat.le_refl _) _)
  go_enter Try.func40, Try.ntmps40
  go_wp2
  generalize w.alloc (.cells #[] 40) = w1 at HW HB ⊢
  go_loopw [4, 5] (fun v a wr => ∃ (p : Nat) (L : List Fr), a = .int .i64 p ∧ DpAt s p L ∧ wr.ownsRow w.heap.size 40 9 v L.length (encF9 L) ∧ Below w.heap.size w wr) (fun v a _ => s.size - (intOf a).toNat)
  case atStart => exact ⟨0, [], rfl, DpAt.start s, HW.out, HB.out⟩
  case round =>
    obtain ⟨p, L, rfl, hd, ho, hbw⟩ := hrel
    clear HW HB
    have hlp := hd.1
    have HD := Lib.hid hd; clear hd
    have HO := Lib.hid ho; clear ho
    by_cases hlt : p < s.size
    · by_cases hz : (s[p]'hlt).toNat = 0
      · have hk3 : (((s[p]'hlt).toNat : Nat) : Int) = 0 := by omega
        have HN := Lib.hid (HD.out.zero hlt hz); clear hz
        go_wp2_with fail
        go_roundw
        case rel => exact ⟨p + 1, L, by go_num, HN.out, HO.out, hbw⟩
        case measure => simp [intOf]; omega
      · obtain ⟨k, hk⟩ : ∃ k, (s[p]'hlt).toNat = k := ⟨_, rfl⟩
        have hk3 : (((s[p]'hlt).toNat : Nat) : Int) = (k : Int) := by omega
        have hkz : ((k : Int) == 0) = false := by simp; omega
        clear hk
        have HZ := Lib.hid hz; clear hz
        go_wp2_with fail
        refine (iDF' s hs p _).mono ?_
        rintro e w2 ⟨hb2, rfl⟩
        have HO2 := Lib.hid (own_step HO.out hb2)
        replace hbw := below_next hbw hbw.size hb2
        clear HO hb2 hk3 hkz
        have HO := HO2; clear HO2
        cases hdf : dfO s p with
        | none =>
          have HN := Lib.hid (HD.out.fail hlt HZ.out hdf); clear hdf
          simp only [dfVal]
          go_wp2_with fail
          go_ret2
          exact OutP.of_own (L := []) (hbw.alloc hbw.size _) (World.ownsRow_nil _ _ _ _) rfl HN.out
        | some x =>
          obtain ⟨⟨xa, xb, xc, xd, xe, xg, xl, xm, xu⟩, q⟩ := x
          obtain ⟨hxd, _, hpq, hqs, _⟩ := dfO_facts hs hdf
          have HN := Lib.hid (HD.out.next hlt HZ.out hdf hpq hqs); clear hdf
          obtain ⟨q, rfl⟩ := Int.eq_ofNat_of_zero_le (show 0 ≤ q by omega)
          simp only [Int.toNat_natCast] at HN
          have hsz := hbw.size
          simp only [dfVal, frA]
          go_wp2_with (at_builtin; refine wpList_append_own _ rfl _ _ 47 rfl w.heap.size 40 i0 (.agg #[.int .i64 0, .int .i64 0, .int .i64 0, .string ⟨#[]⟩, .bool false, .int .i64 0, .int .i64 0, .int .i64 0, .bool false]) 9 80 Try.underlying47 hi hz0 hz1 hz2 rfl (by decide) _ _ _ rfl ((HO.out.alloc _).alloc _) ⟨w2.heap.size + 1, 0, none⟩ 1 1 [.int .i64 xa, .int .i64 xb, .int .i64 xc, .string xd, .bool xe, .int .i64 xg, .int .i64 xl, .int .i64 xm, .bool xu] rfl rfl (news9 _ _ _ _ _ _ _ _ _ (by simp)) (one_9 (⟨xa, xb, xc, xd, xe, xg, xl, xm, xu⟩ : Fr)) (by unfold maxLen; omega) (by omega) (by simp; omega) ?_)
          intro v' w3 hown1 hgrow _
          have hb2 : Below w.heap.size w w3 := ((hbw.alloc hsz (.cells #[.int .i64 xa, .int .i64 xb, .int .i64 xc, .string xd, .bool xe, .int .i64 xg, .int .i64 xl, .int .i64 xm, .bool xu] 40)).alloc (by simp; omega) (.cells #[.int .i64 xa, .int .i64 xb, .int .i64 xc, .string xd, .bool xe, .int .i64 xg, .int .i64 xl, .int .i64 xm, .bool xu] 40)).grown hgrow (by simp; omega) (fun k hk => (HO.out.lt k hk).1)
          have HO1 := Lib.hid (show w3.ownsRow w.heap.size 40 9 v' (L ++ [(⟨xa, xb, xc, xd, xe, xg, xl, xm, xu⟩ : Fr)]).length (encF9 (L ++ [(⟨xa, xb, xc, xd, xe, xg, xl, xm, xu⟩ : Fr)])) by rw [encF9_snoc]; simpa [frC] using hown1)
          clear hown1 hgrow HO
          have hpk' : p < q := by omega
          go_wp2
          go_roundw
          case rel => exact ⟨q, L ++ [(⟨xa, xb, xc, xd, xe, xg, xl, xm, xu⟩ : Fr)], by go_num, HN.out, HO1.out, hb2⟩
          case measure => simp [intOf]; omega
    · have hdn := HD.out.done (by omega)
      by_cases h1 : (1 : Int) ≤ (s.size : Int)
      · have d1 : decide ((1 : Int) ≤ (s.size : Int)) = true := by simp; omega
        by_cases h2 : (s.size : Int) ≤ 400
        · have d2 : decide ((s.size : Int) ≤ 400) = true := by simp; omega
          have HN : Hid (dpL s = L ∧ dpT s = true) := ⟨hdn.1, by rw [hdn.2]; simp; omega⟩
          clear hdn
          go_wp2_with (first | (go_at_call 47; go_in))
          go_ret2
          exact OutP.of_own hbw HO.out rfl HN.out
        · have d2 : decide ((s.size : Int) ≤ 400) = false := by simp; omega
          have HN : Hid (dpL s = L ∧ dpT s = false) := ⟨hdn.1, by rw [hdn.2]; simp; omega⟩
          clear hdn
          go_wp2_with (first | (go_at_call 47; go_in))
          go_ret2
          exact OutP.of_own hbw HO.out rfl HN.out
      · have d1 : decide ((1 : Int) ≤ (s.size : Int)) = false := by simp; omega
        have HN : Hid (dpL s = L ∧ dpT s = false) := ⟨hdn.1, by rw [hdn.2]; simp; omega⟩
        clear hdn
        go_wp2_with (first | (go_at_call 47; go_in))
        go_ret2
        exact OutP.of_own hbw HO.out rfl HN.out
end Go.Proofs.Ytadoiehgobcjcaa
