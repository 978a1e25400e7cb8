/- Joined: FkB FkC. -/
import Derived.Test.YtngdolmmaiogiaaJ24
import Derived.Test.YtngdolmmaiogiaaJ02

/- The walk of to of the check. Condition: the subtable reads as plain data. Printed by wip/tools/g32b.py. Printed by wip/tools. -/
namespace Go.Proofs.Ytngdolmmaiogiaa
open Go.RowKit

/-- what a glyph may become -/
def FkTo1 (m : Nat) (kind : Int) (t : List Int) : Prop := t.all (fkT m) = true ∧ (kind = 2 → t.length ≤ 16) ∧ (kind ≠ 2 → t.length = 1)
def FkTo (m : Nat) (kind : Int) (co : List Int) (tt : List (List Int)) : Prop := tt.length = co.length ∧ ∀ t ∈ tt, FkTo1 m kind t
set_option maxRecDepth 100000 in
set_option maxHeartbeats 4000000 in
theorem kto_any (F : Fnt) (B : Nat) (kind : Int) (s : Sb) (p : PSu) (w : World) (hgn : F.gn ≤ 9223372036854775807) (h : SubOk w B s p) (hB : B ≤ w.heap.size) :
    Calls Try.prog 32 #[.agg #[.int .i64 F.em, .slice F.GA F.gn F.gc, .slice F.MA F.mn F.mc, .slice F.LA F.ln F.lc, .slice F.FA F.fn F.fc, .slice F.SA F.sn F.sc], .int .i64 kind, .agg #[.slice s.co.A s.co.n s.co.c, .slice s.tt.A s.tt.n s.tt.c, .slice s.li.A s.li.n s.li.c, .slice s.ba.A s.ba.n s.ba.c, .slice s.inn.A s.inn.n s.inn.c, .slice s.ah.A s.ah.n s.ah.c, .slice s.ne.A s.ne.n s.ne.c, .slice s.va.A s.va.n s.va.c, .slice s.pr.A s.pr.n s.pr.c, .slice s.cu.A s.cu.n s.cu.c, .slice s.ma.A s.ma.n s.ma.c, .slice s.ho.A s.ho.n s.ho.c]] w (RetB w (fun b => b = true ↔ FkTo F.gn kind p.co p.tt)) := by
  have hcap := h.tt.cap
  have hlen := h.tt.1
  have hcl := h.co.length
  have hcc := h.co.cap
  have HS0 := Lib.hid h
  clear h
  obtain ⟨wb1, hw_wb1⟩ : ∃ z, z = w.alloc (.cells #[.int .i64 F.em, .slice F.GA F.gn F.gc, .slice F.MA F.mn F.mc, .slice F.LA F.ln F.lc, .slice F.FA F.fn F.fc, .slice F.SA F.sn F.sc] 71) := ⟨_, rfl⟩
  have hs_wb1 : wb1.heap.size = w.heap.size + 1 := by rw [hw_wb1]; simp
  have hb_wb1 : Below w.heap.size w wb1 := by rw [hw_wb1]; exact (Below.refl _ _).alloc (Nat.le_refl _) _
  have hx_0 : wb1.heap[w.heap.size]? = some (.cells #[.int .i64 F.em, .slice F.GA F.gn F.gc, .slice F.MA F.mn F.mc, .slice F.LA F.ln F.lc, .slice F.FA F.fn F.fc, .slice F.SA F.sn F.sc] 71 (0, 0)) := by rw [hw_wb1]; exact heap_alloc_new _ _
  obtain ⟨w1, hw_w1⟩ : ∃ z, z = wb1.alloc (.cells #[.slice s.co.A s.co.n s.co.c, .slice s.tt.A s.tt.n s.tt.c, .slice s.li.A s.li.n s.li.c, .slice s.ba.A s.ba.n s.ba.c, .slice s.inn.A s.inn.n s.inn.c, .slice s.ah.A s.ah.n s.ah.c, .slice s.ne.A s.ne.n s.ne.c, .slice s.va.A s.va.n s.va.c, .slice s.pr.A s.pr.n s.pr.c, .slice s.cu.A s.cu.n s.cu.c, .slice s.ma.A s.ma.n s.ma.c, .slice s.ho.A s.ho.n s.ho.c] 60) := ⟨_, rfl⟩
  have hs_w1 : w1.heap.size = w.heap.size + 2 := by rw [hw_w1]; simp <;> omega
  have hb_w1 : Below w.heap.size w w1 := by rw [hw_w1]; exact hb_wb1.alloc (by omega) _
  have hx_1 : w1.heap[w.heap.size + 1]? = some (.cells #[.slice s.co.A s.co.n s.co.c, .slice s.tt.A s.tt.n s.tt.c, .slice s.li.A s.li.n s.li.c, .slice s.ba.A s.ba.n s.ba.c, .slice s.inn.A s.inn.n s.inn.c, .slice s.ah.A s.ah.n s.ah.c, .slice s.ne.A s.ne.n s.ne.c, .slice s.va.A s.va.n s.va.c, .slice s.pr.A s.pr.n s.pr.c, .slice s.cu.A s.cu.n s.cu.c, .slice s.ma.A s.ma.n s.ma.c, .slice s.ho.A s.ho.n s.ho.c] 60 (0, 0)) := by rw [hw_w1]; exact (hs_wb1 ▸ heap_alloc_new wb1 _)
  have hx_0 : w1.heap[w.heap.size]? = some (.cells #[.int .i64 F.em, .slice F.GA F.gn F.gc, .slice F.MA F.mn F.mc, .slice F.LA F.ln F.lc, .slice F.FA F.fn F.fc, .slice F.SA F.sn F.sc] 71 (0, 0)) := by rw [hw_w1]; exact (heap_alloc_old _ _ (by omega)).trans hx_0
  have g0 := up_fact (show w1.cell? ⟨w.heap.size, 0, none⟩ = some (.int .i64 F.em) by rw [cell_of_row _ _ 0 _ _ _ hx_0]; rfl)
  have g1 := up_fact (show w1.cell? ⟨w.heap.size, 1, none⟩ = some (.slice F.GA F.gn F.gc) by rw [cell_of_row _ _ 1 _ _ _ hx_0]; rfl)
  have g2 := up_fact (show w1.cell? ⟨w.heap.size, 2, none⟩ = some (.slice F.MA F.mn F.mc) by rw [cell_of_row _ _ 2 _ _ _ hx_0]; rfl)
  have g3 := up_fact (show w1.cell? ⟨w.heap.size, 3, none⟩ = some (.slice F.LA F.ln F.lc) by rw [cell_of_row _ _ 3 _ _ _ hx_0]; rfl)
  have g4 := up_fact (show w1.cell? ⟨w.heap.size, 4, none⟩ = some (.slice F.FA F.fn F.fc) by rw [cell_of_row _ _ 4 _ _ _ hx_0]; rfl)
  have g5 := up_fact (show w1.cell? ⟨w.heap.size, 5, none⟩ = some (.slice F.SA F.sn F.sc) by rw [cell_of_row _ _ 5 _ _ _ hx_0]; rfl)
  have s0 := up_fact (show w1.cell? ⟨w.heap.size + 1, 0, none⟩ = some (.slice s.co.A s.co.n s.co.c) by rw [cell_of_row _ _ 0 _ _ _ hx_1]; rfl)
  have s1 := up_fact (show w1.cell? ⟨w.heap.size + 1, 1, none⟩ = some (.slice s.tt.A s.tt.n s.tt.c) by rw [cell_of_row _ _ 1 _ _ _ hx_1]; rfl)
  have s2 := up_fact (show w1.cell? ⟨w.heap.size + 1, 2, none⟩ = some (.slice s.li.A s.li.n s.li.c) by rw [cell_of_row _ _ 2 _ _ _ hx_1]; rfl)
  have s3 := up_fact (show w1.cell? ⟨w.heap.size + 1, 3, none⟩ = some (.slice s.ba.A s.ba.n s.ba.c) by rw [cell_of_row _ _ 3 _ _ _ hx_1]; rfl)
  have s4 := up_fact (show w1.cell? ⟨w.heap.size + 1, 4, none⟩ = some (.slice s.inn.A s.inn.n s.inn.c) by rw [cell_of_row _ _ 4 _ _ _ hx_1]; rfl)
  have s5 := up_fact (show w1.cell? ⟨w.heap.size + 1, 5, none⟩ = some (.slice s.ah.A s.ah.n s.ah.c) by rw [cell_of_row _ _ 5 _ _ _ hx_1]; rfl)
  have s6 := up_fact (show w1.cell? ⟨w.heap.size + 1, 6, none⟩ = some (.slice s.ne.A s.ne.n s.ne.c) by rw [cell_of_row _ _ 6 _ _ _ hx_1]; rfl)
  have s7 := up_fact (show w1.cell? ⟨w.heap.size + 1, 7, none⟩ = some (.slice s.va.A s.va.n s.va.c) by rw [cell_of_row _ _ 7 _ _ _ hx_1]; rfl)
  have s8 := up_fact (show w1.cell? ⟨w.heap.size + 1, 8, none⟩ = some (.slice s.pr.A s.pr.n s.pr.c) by rw [cell_of_row _ _ 8 _ _ _ hx_1]; rfl)
  have s9 := up_fact (show w1.cell? ⟨w.heap.size + 1, 9, none⟩ = some (.slice s.cu.A s.cu.n s.cu.c) by rw [cell_of_row _ _ 9 _ _ _ hx_1]; rfl)
  have s10 := up_fact (show w1.cell? ⟨w.heap.size + 1, 10, none⟩ = some (.slice s.ma.A s.ma.n s.ma.c) by rw [cell_of_row _ _ 10 _ _ _ hx_1]; rfl)
  have s11 := up_fact (show w1.cell? ⟨w.heap.size + 1, 11, none⟩ = some (.slice s.ho.A s.ho.n s.ho.c) by rw [cell_of_row _ _ 11 _ _ _ hx_1]; rfl)
  have hA0 := Below.refl w1.heap.size w1
  have HS1 := Lib.hid hs_w1
  have hs1 : w.heap.size + 1 < w1.heap.size := by omega
  have HB1 := Lib.hid hb_w1
  have HW_wb1 := Lib.hid hw_wb1
  have HW_w1 := Lib.hid hw_w1
  clear hw_wb1 hs_wb1 hb_wb1 hw_w1 hs_w1 hb_w1
  clear hx_0 hx_1
  have HT := Lib.hid (HS0.out.tt.below (HB1.out.mono hB))
  clear s2 s3 s4 s5 s6 s7 s8 s9 s10 s11
  by_cases hne : s.tt.n = s.co.n
  rotate_left
  · have e1 : ((s.tt.n : Int) == (s.co.n : Int)) = false := by simp; omega
    have e2 : (s.tt.n == s.co.n) = false := by simp; omega
    have HBAD := Lib.hid (show ¬ FkTo F.gn kind p.co p.tt from fun h => hne (by have := h.1; omega))
    clear hne
    go_enter Try.func32, Try.ntmps32
    go_upto_region 1 with fail
    rw [← HW_wb1.out]
    rw [← HW_w1.out]
    go_wp2_with fail
    go_ret
    exact ⟨false, rfl, ⟨(fun h => by cases h), fun h => absurd h HBAD.out⟩, HB1.out⟩
  have e1 : ((s.tt.n : Int) == (s.co.n : Int)) = true := by simp; omega
  have e2 : (s.tt.n == s.co.n) = true := by simp; omega
  have e3 : ((s.tt.n : Int) != (s.co.n : Int)) = false := by simp; omega
  have e4 : (s.tt.n != s.co.n) = false := by simp; omega
  have HNE := Lib.hid (show p.tt.length = p.co.length by omega)
  clear hne
  go_enter Try.func32, Try.ntmps32
  go_upto_region 1 with fail
  rw [← HW_wb1.out]
  rw [← HW_w1.out]
  go_upto_region 4 with fail
  go_loopw [19] (fun v wr => ∃ k : Nat, v = .int .i64 (k : Int) ∧ k ≤ s.tt.n ∧ Hid (∀ t ∈ p.tt.take k, FkTo1 F.gn kind t) ∧ Below w1.heap.size w1 wr) (fun v _ => s.tt.n - (intOf v).toNat)
  case atStart => exact ⟨0, rfl, Nat.zero_le _, Lib.hid (fun t ht => by simp at ht), hA0⟩
  case round =>
    obtain ⟨k, rfl, hk, hpre, hA⟩ := hrel
    have HPRE := hpre
    clear hpre
    by_cases hin : k < s.tt.n
    rotate_left
    · have q1 : decide ((k : Int) < (s.tt.n : Int)) = false := by simp; omega
      have q2 : decide (k < s.tt.n) = false := by simp; omega
      have HALL := Lib.hid (show FkTo F.gn kind p.co p.tt from ⟨HNE.out, by have h0 := HPRE.out; rwa [List.take_of_length_le (by omega)] at h0⟩)
      clear hin
      go_wp2_with fail
      go_ret
      exact ⟨true, rfl, ⟨fun _ => HALL.out, fun _ => rfl⟩, HB1.out.trans (hA.mono (by omega))⟩
    · have q1 : decide ((k : Int) < (s.tt.n : Int)) = true := by simp; omega
      have q2 : decide (k < s.tt.n) = true := by simp; omega
      have sk : IntKind.i64.wrap ((k : Int) + 1) = (k : Int) + 1 := by rw [IntKind.wrap_i64]; omega
      obtain ⟨b, o, A', n', c', eA, hbb, d0, hz⟩ := HT.out.2.2.2 k hin
      have d0 := (hA.cell (p := ⟨b, o + k, none⟩) (by show b < _; omega)).trans d0
      have HEA := Lib.hid eA
      obtain ⟨t, ht⟩ : ∃ t, p.tt[k]? = some t := ⟨_, List.getElem?_eq_getElem (by omega)⟩
      rw [List.getD_eq_getElem?_getD, ht, Option.getD_some] at hz
      have HTK := Lib.hid ht
      have HMEM := Lib.hid (List.mem_of_getElem? ht)
      have htl := hz.length
      have htc := hz.cap
      obtain ⟨q, hq⟩ : ∃ z, z = t.all (fkT F.gn) := ⟨_, rfl⟩
      have HTH := Lib.hid (fun W (hW : Below w1.heap.size w1 W) => show Calls Try.prog 26 #[.agg #[.int .i64 F.em, .slice F.GA F.gn F.gc, .slice F.MA F.mn F.mc, .slice F.LA F.ln F.lc, .slice F.FA F.fn F.fc, .slice F.SA F.sn F.sc], .slice A' n' c'] W (RetV W q) from by rw [hq]; exact kthere_any F B A' n' c' t W hgn (hz.below (hW.mono (by omega))) (by have := hW.size; omega))
      have HQ := Lib.hid hq.symm
      clear hz eA ht hq
      by_cases k2 : kind = 2
      · have r1 : (kind == 2) = true := by simp [k2]
        have r2 : (kind != 2) = false := by simp [k2]
        by_cases h16 : n' ≤ 16
        · have u1 : decide ((16 : Int) < (n' : Int)) = false := by simp; omega
          have u2 : decide (16 < n') = false := by simp; omega
          cases q with
          | true =>
            have HGOOD := Lib.hid (show FkTo1 F.gn kind t from ⟨HQ.out, fun _ => by omega, fun h => absurd k2 h⟩)
            clear k2
            go_upto_region 5 with fail
            rw [HEA.out]
            go_wp2_with (go_at_call 26; refine (HTH.out _ hA).mono ?_; rintro e w2 ⟨rfl, hb2⟩; have hA := bgo hA hb2; clear hb2)
            rw [← HEA.out]
            go_roundw
            case rel => exact ⟨k + 1, by go_num, by omega, Lib.hid (fun t ht => by
              rw [List.take_add_one, HTK.out, Option.toList_some, List.mem_append, List.mem_singleton] at ht
              rcases ht with ht | rfl
              · exact HPRE.out t ht
              · exact HGOOD.out), hA⟩
            case measure => simp [intOf] <;> omega
          | false =>
            have HBAD := Lib.hid (fun (h : FkTo1 F.gn kind t) => show (false : Bool) = true from HQ.out.symm.trans h.1)
            clear k2
            go_upto_region 5 with fail
            rw [HEA.out]
            go_wp2_with (go_at_call 26; refine (HTH.out _ hA).mono ?_; rintro e w2 ⟨rfl, hb2⟩; have hA := bgo hA hb2; clear hb2)
            go_ret
            exact ⟨false, rfl, ⟨(fun h => by cases h), fun h => HBAD.out (h.2 _ HMEM.out)⟩, HB1.out.trans (hA.mono (by omega))⟩
        · have u1 : decide ((16 : Int) < (n' : Int)) = true := by simp; omega
          have u2 : decide (16 < n') = true := by simp; omega
          have HBAD := Lib.hid (fun (h : FkTo1 F.gn kind t) => show (false : Bool) = true from absurd (h.2.1 k2) (by omega))
          clear k2 h16
          go_upto_region 5 with fail
          rw [HEA.out]
          go_wp2_with fail
          go_ret
          exact ⟨false, rfl, ⟨(fun h => by cases h), fun h => HBAD.out (h.2 _ HMEM.out)⟩, HB1.out.trans (hA.mono (by omega))⟩
      · have r1 : (kind == 2) = false := by simp [k2]
        have r2 : (kind != 2) = true := by simp [k2]
        by_cases h16 : n' = 1
        · subst h16
          cases q with
          | true =>
            have HGOOD := Lib.hid (show FkTo1 F.gn kind t from ⟨HQ.out, fun h => absurd h k2, fun _ => by omega⟩)
            clear k2
            go_upto_region 5 with fail
            rw [HEA.out]
            go_wp2_with (go_at_call 26; refine (HTH.out _ hA).mono ?_; rintro e w2 ⟨rfl, hb2⟩; have hA := bgo hA hb2; clear hb2)
            rw [← HEA.out]
            go_roundw
            case rel => exact ⟨k + 1, by go_num, by omega, Lib.hid (fun t ht => by
              rw [List.take_add_one, HTK.out, Option.toList_some, List.mem_append, List.mem_singleton] at ht
              rcases ht with ht | rfl
              · exact HPRE.out t ht
              · exact HGOOD.out), hA⟩
            case measure => simp [intOf] <;> omega
          | false =>
            have HBAD := Lib.hid (fun (h : FkTo1 F.gn kind t) => show (false : Bool) = true from HQ.out.symm.trans h.1)
            clear k2
            go_upto_region 5 with fail
            rw [HEA.out]
            go_wp2_with (go_at_call 26; refine (HTH.out _ hA).mono ?_; rintro e w2 ⟨rfl, hb2⟩; have hA := bgo hA hb2; clear hb2)
            go_ret
            exact ⟨false, rfl, ⟨(fun h => by cases h), fun h => HBAD.out (h.2 _ HMEM.out)⟩, HB1.out.trans (hA.mono (by omega))⟩
        · have u1 : ((n' : Int) == 1) = false := by simp; omega
          have u2 : (n' == 1) = false := by simp; omega
          have u3 : ((n' : Int) != 1) = true := by simp; omega
          have u4 : (n' != 1) = true := by simp; omega
          have HBAD := Lib.hid (fun (h : FkTo1 F.gn kind t) => show (false : Bool) = true from absurd (h.2.2 k2) (by omega))
          clear k2 h16
          go_upto_region 5 with fail
          rw [HEA.out]
          go_wp2_with fail
          go_ret
          exact ⟨false, rfl, ⟨(fun h => by cases h), fun h => HBAD.out (h.2 _ HMEM.out)⟩, HB1.out.trans (hA.mono (by omega))⟩

end Go.Proofs.Ytngdolmmaiogiaa

/- The walk of ligs of the check. Condition: the subtable reads as plain data, its rows are no longer than 2^47, its cover is one. Printed by wip/tools/g32c.py. Printed by wip/tools. -/
namespace Go.Proofs.Ytngdolmmaiogiaa
open Go.RowKit

/-- A fresh list reads. -/
theorem Ints.lit1 (w : World) (a : Int) (t : TypeId) : Ints (w.alloc (.cells #[.int .i64 a] t)) (w.alloc (.cells #[.int .i64 a] t)).heap.size (some ⟨w.heap.size, 0, none⟩) 1 1 [a] :=
  ⟨rfl, Nat.le_refl _, by unfold maxLen; omega, (fun h => by cases h), fun k x hk => by
    rcases k with _ | k
    · cases hk
      exact ⟨w.heap.size, 0, rfl, by simp, by rw [cell_of_row _ _ 0 _ _ _ (heap_alloc_new w (.cells #[.int .i64 a] t))]; rfl⟩
    · simp at hk⟩
theorem Ints.lit2 (w : World) (a b : Int) (t : TypeId) : Ints (w.alloc (.cells #[.int .i64 a, .int .i64 b] t)) (w.alloc (.cells #[.int .i64 a, .int .i64 b] t)).heap.size (some ⟨w.heap.size, 0, none⟩) 2 2 [a, b] :=
  ⟨rfl, Nat.le_refl _, by unfold maxLen; omega, (fun h => by cases h), fun k x hk => by
    rcases k with _ | _ | k
    · cases hk
      exact ⟨w.heap.size, 0, rfl, by simp, by rw [cell_of_row _ _ 0 _ _ _ (heap_alloc_new w (.cells #[.int .i64 a, .int .i64 b] t))]; rfl⟩
    · cases hk
      exact ⟨w.heap.size, 0, rfl, by simp, by rw [cell_of_row _ _ 1 _ _ _ (heap_alloc_new w (.cells #[.int .i64 a, .int .i64 b] t))]; rfl⟩
    · simp at hk⟩
theorem Ints.lit3 (w : World) (a b c : Int) (t : TypeId) : Ints (w.alloc (.cells #[.int .i64 a, .int .i64 b, .int .i64 c] t)) (w.alloc (.cells #[.int .i64 a, .int .i64 b, .int .i64 c] t)).heap.size (some ⟨w.heap.size, 0, none⟩) 3 3 [a, b, c] :=
  ⟨rfl, Nat.le_refl _, by unfold maxLen; omega, (fun h => by cases h), fun k x hk => by
    rcases k with _ | _ | _ | k
    · cases hk
      exact ⟨w.heap.size, 0, rfl, by simp, by rw [cell_of_row _ _ 0 _ _ _ (heap_alloc_new w (.cells #[.int .i64 a, .int .i64 b, .int .i64 c] t))]; rfl⟩
    · cases hk
      exact ⟨w.heap.size, 0, rfl, by simp, by rw [cell_of_row _ _ 1 _ _ _ (heap_alloc_new w (.cells #[.int .i64 a, .int .i64 b, .int .i64 c] t))]; rfl⟩
    · cases hk
      exact ⟨w.heap.size, 0, rfl, by simp, by rw [cell_of_row _ _ 2 _ _ _ (heap_alloc_new w (.cells #[.int .i64 a, .int .i64 b, .int .i64 c] t))]; rfl⟩
    · simp at hk⟩
theorem le_sum_mem : ∀ {l : List Nat} {a : Nat}, a ∈ l → a ≤ l.sum
  | b :: l, a, h => by
    rw [List.sum_cons]
    rcases List.mem_cons.1 h with rfl | h
    · omega
    · have := le_sum_mem h; omega
/-- a ligature that may be -/
def FkLig (m : Nat) (x : PG) : Prop := fkW (x.1.length : Int) 1 15 = true ∧ x.1.all (fkT m) = true ∧ [x.2].all (fkT m) = true
def FkLigs (m : Nat) (li : List (List PG)) : Prop := ∀ r ∈ li, r.length ≤ 4096 ∧ ∀ x ∈ r, FkLig m x
def FkMany (m : Nat) (li : List (List PG)) (k z : Nat) : Prop := z = ((li.take k).map List.length).sum ∧ ∀ r ∈ li.take k, ∀ x ∈ r, FkLig m x
theorem FkMany.zero {m : Nat} {li : List (List PG)} : FkMany m li 0 0 := ⟨rfl, fun r h => by simp at h⟩
theorem FkMany.next {m k z : Nat} {li : List (List PG)} {r : List PG} (h : FkMany m li k z) (hr : li[k]? = some r) (h2 : ∀ x ∈ r, FkLig m x) : FkMany m li (k + 1) (z + r.length) := by
  refine ⟨?_, fun r' hr' => ?_⟩
  · rw [List.take_add_one, hr, Option.toList_some, List.map_append, List.sum_append, h.1]; simp
  · rw [List.take_add_one, hr, Option.toList_some, List.mem_append, List.mem_singleton] at hr'
    rcases hr' with hr' | rfl
    · exact h.2 r' hr'
    · exact h2
theorem FkMany.done {m k z : Nat} {li : List (List PG)} (h : FkMany m li k z) (hk : li.length ≤ k) (hz : z ≤ 4096) : FkLigs m li := by
  have h1 := h.1
  have h2 := h.2
  rw [List.take_of_length_le hk] at h1 h2
  exact fun r hr => ⟨by
    have := le_sum_mem (List.mem_map.2 ⟨r, hr, rfl⟩ : r.length ∈ li.map List.length)
    omega, h2 r hr⟩
set_option maxRecDepth 100000 in
set_option maxHeartbeats 4000000 in
theorem kligs_any (F : Fnt) (B : Nat) (s : Sb) (p : PSu) (w : World) (hgn : F.gn ≤ 9223372036854775807) (h : SubOk w B s p) (hB : B ≤ w.heap.size) (hrow : ∀ r ∈ p.li, r.length ≤ 140737488355328) (hco : s.co.n ≤ 4096) :
    Calls Try.prog 34 #[.agg #[.int .i64 F.em, .slice F.GA F.gn F.gc, .slice F.MA F.mn F.mc, .slice F.LA F.ln F.lc, .slice F.FA F.fn F.fc, .slice F.SA F.sn F.sc], .agg #[.slice s.co.A s.co.n s.co.c, .slice s.tt.A s.tt.n s.tt.c, .slice s.li.A s.li.n s.li.c, .slice s.ba.A s.ba.n s.ba.c, .slice s.inn.A s.inn.n s.inn.c, .slice s.ah.A s.ah.n s.ah.c, .slice s.ne.A s.ne.n s.ne.c, .slice s.va.A s.va.n s.va.c, .slice s.pr.A s.pr.n s.pr.c, .slice s.cu.A s.cu.n s.cu.c, .slice s.ma.A s.ma.n s.ma.c, .slice s.ho.A s.ho.n s.ho.c]] w (RetB w (fun b => b = true → FkLigs F.gn p.li)) := by
  have hcap := h.li.cap
  have hlen := h.li.length
  have hcl := h.co.length
  have hcc := h.co.cap
  have HS0 := Lib.hid h
  clear h
  obtain ⟨wb1, hw_wb1⟩ : ∃ z, z = w.alloc (.cells #[.int .i64 F.em, .slice F.GA F.gn F.gc, .slice F.MA F.mn F.mc, .slice F.LA F.ln F.lc, .slice F.FA F.fn F.fc, .slice F.SA F.sn F.sc] 71) := ⟨_, rfl⟩
  have hs_wb1 : wb1.heap.size = w.heap.size + 1 := by rw [hw_wb1]; simp
  have hb_wb1 : Below w.heap.size w wb1 := by rw [hw_wb1]; exact (Below.refl _ _).alloc (Nat.le_refl _) _
  have hx_0 : wb1.heap[w.heap.size]? = some (.cells #[.int .i64 F.em, .slice F.GA F.gn F.gc, .slice F.MA F.mn F.mc, .slice F.LA F.ln F.lc, .slice F.FA F.fn F.fc, .slice F.SA F.sn F.sc] 71 (0, 0)) := by rw [hw_wb1]; exact heap_alloc_new _ _
  obtain ⟨w1, hw_w1⟩ : ∃ z, z = wb1.alloc (.cells #[.slice s.co.A s.co.n s.co.c, .slice s.tt.A s.tt.n s.tt.c, .slice s.li.A s.li.n s.li.c, .slice s.ba.A s.ba.n s.ba.c, .slice s.inn.A s.inn.n s.inn.c, .slice s.ah.A s.ah.n s.ah.c, .slice s.ne.A s.ne.n s.ne.c, .slice s.va.A s.va.n s.va.c, .slice s.pr.A s.pr.n s.pr.c, .slice s.cu.A s.cu.n s.cu.c, .slice s.ma.A s.ma.n s.ma.c, .slice s.ho.A s.ho.n s.ho.c] 60) := ⟨_, rfl⟩
  have hs_w1 : w1.heap.size = w.heap.size + 2 := by rw [hw_w1]; simp <;> omega
  have hb_w1 : Below w.heap.size w w1 := by rw [hw_w1]; exact hb_wb1.alloc (by omega) _
  have hx_1 : w1.heap[w.heap.size + 1]? = some (.cells #[.slice s.co.A s.co.n s.co.c, .slice s.tt.A s.tt.n s.tt.c, .slice s.li.A s.li.n s.li.c, .slice s.ba.A s.ba.n s.ba.c, .slice s.inn.A s.inn.n s.inn.c, .slice s.ah.A s.ah.n s.ah.c, .slice s.ne.A s.ne.n s.ne.c, .slice s.va.A s.va.n s.va.c, .slice s.pr.A s.pr.n s.pr.c, .slice s.cu.A s.cu.n s.cu.c, .slice s.ma.A s.ma.n s.ma.c, .slice s.ho.A s.ho.n s.ho.c] 60 (0, 0)) := by rw [hw_w1]; exact (hs_wb1 ▸ heap_alloc_new wb1 _)
  have hx_0 : w1.heap[w.heap.size]? = some (.cells #[.int .i64 F.em, .slice F.GA F.gn F.gc, .slice F.MA F.mn F.mc, .slice F.LA F.ln F.lc, .slice F.FA F.fn F.fc, .slice F.SA F.sn F.sc] 71 (0, 0)) := by rw [hw_w1]; exact (heap_alloc_old _ _ (by omega)).trans hx_0
  have g0 := up_fact (show w1.cell? ⟨w.heap.size, 0, none⟩ = some (.int .i64 F.em) by rw [cell_of_row _ _ 0 _ _ _ hx_0]; rfl)
  have g1 := up_fact (show w1.cell? ⟨w.heap.size, 1, none⟩ = some (.slice F.GA F.gn F.gc) by rw [cell_of_row _ _ 1 _ _ _ hx_0]; rfl)
  have g2 := up_fact (show w1.cell? ⟨w.heap.size, 2, none⟩ = some (.slice F.MA F.mn F.mc) by rw [cell_of_row _ _ 2 _ _ _ hx_0]; rfl)
  have g3 := up_fact (show w1.cell? ⟨w.heap.size, 3, none⟩ = some (.slice F.LA F.ln F.lc) by rw [cell_of_row _ _ 3 _ _ _ hx_0]; rfl)
  have g4 := up_fact (show w1.cell? ⟨w.heap.size, 4, none⟩ = some (.slice F.FA F.fn F.fc) by rw [cell_of_row _ _ 4 _ _ _ hx_0]; rfl)
  have g5 := up_fact (show w1.cell? ⟨w.heap.size, 5, none⟩ = some (.slice F.SA F.sn F.sc) by rw [cell_of_row _ _ 5 _ _ _ hx_0]; rfl)
  have s0 := up_fact (show w1.cell? ⟨w.heap.size + 1, 0, none⟩ = some (.slice s.co.A s.co.n s.co.c) by rw [cell_of_row _ _ 0 _ _ _ hx_1]; rfl)
  have s1 := up_fact (show w1.cell? ⟨w.heap.size + 1, 1, none⟩ = some (.slice s.tt.A s.tt.n s.tt.c) by rw [cell_of_row _ _ 1 _ _ _ hx_1]; rfl)
  have s2 := up_fact (show w1.cell? ⟨w.heap.size + 1, 2, none⟩ = some (.slice s.li.A s.li.n s.li.c) by rw [cell_of_row _ _ 2 _ _ _ hx_1]; rfl)
  have s3 := up_fact (show w1.cell? ⟨w.heap.size + 1, 3, none⟩ = some (.slice s.ba.A s.ba.n s.ba.c) by rw [cell_of_row _ _ 3 _ _ _ hx_1]; rfl)
  have s4 := up_fact (show w1.cell? ⟨w.heap.size + 1, 4, none⟩ = some (.slice s.inn.A s.inn.n s.inn.c) by rw [cell_of_row _ _ 4 _ _ _ hx_1]; rfl)
  have s5 := up_fact (show w1.cell? ⟨w.heap.size + 1, 5, none⟩ = some (.slice s.ah.A s.ah.n s.ah.c) by rw [cell_of_row _ _ 5 _ _ _ hx_1]; rfl)
  have s6 := up_fact (show w1.cell? ⟨w.heap.size + 1, 6, none⟩ = some (.slice s.ne.A s.ne.n s.ne.c) by rw [cell_of_row _ _ 6 _ _ _ hx_1]; rfl)
  have s7 := up_fact (show w1.cell? ⟨w.heap.size + 1, 7, none⟩ = some (.slice s.va.A s.va.n s.va.c) by rw [cell_of_row _ _ 7 _ _ _ hx_1]; rfl)
  have s8 := up_fact (show w1.cell? ⟨w.heap.size + 1, 8, none⟩ = some (.slice s.pr.A s.pr.n s.pr.c) by rw [cell_of_row _ _ 8 _ _ _ hx_1]; rfl)
  have s9 := up_fact (show w1.cell? ⟨w.heap.size + 1, 9, none⟩ = some (.slice s.cu.A s.cu.n s.cu.c) by rw [cell_of_row _ _ 9 _ _ _ hx_1]; rfl)
  have s10 := up_fact (show w1.cell? ⟨w.heap.size + 1, 10, none⟩ = some (.slice s.ma.A s.ma.n s.ma.c) by rw [cell_of_row _ _ 10 _ _ _ hx_1]; rfl)
  have s11 := up_fact (show w1.cell? ⟨w.heap.size + 1, 11, none⟩ = some (.slice s.ho.A s.ho.n s.ho.c) by rw [cell_of_row _ _ 11 _ _ _ hx_1]; rfl)
  have hA0 := Below.refl w1.heap.size w1
  have HS1 := Lib.hid hs_w1
  have hs1 : w.heap.size + 1 < w1.heap.size := by omega
  have HB1 := Lib.hid hb_w1
  have HW_wb1 := Lib.hid hw_wb1
  have HW_w1 := Lib.hid hw_w1
  clear hw_wb1 hs_wb1 hb_wb1 hw_w1 hs_w1 hb_w1
  clear hx_0 hx_1
  have HL := Lib.hid (SlR.below HS0.out.li (HB1.out.mono hB) fun _ _ h => RowR.below h (HB1.out.mono hB))
  have HROW := Lib.hid hrow
  clear hrow
  clear s1 s3 s4 s5 s6 s7 s8 s9 s10 s11
  by_cases hne : s.li.n = s.co.n
  rotate_left
  · have e1 : ((s.li.n : Int) == (s.co.n : Int)) = false := by simp; omega
    have e2 : (s.li.n == s.co.n) = false := by simp; omega
    clear hne
    go_enter Try.func34, Try.ntmps34
    go_upto_region 1 with fail
    rw [← HW_wb1.out]
    rw [← HW_w1.out]
    go_wp2_with fail
    go_ret
    exact ⟨false, rfl, (fun h => by cases h), HB1.out⟩
  have e1 : ((s.li.n : Int) == (s.co.n : Int)) = true := by simp; omega
  have e2 : (s.li.n == s.co.n) = true := by simp; omega
  have e3 : ((s.li.n : Int) != (s.co.n : Int)) = false := by simp; omega
  have e4 : (s.li.n != s.co.n) = false := by simp; omega
  have hl4 : s.li.n ≤ 4096 := by omega
  clear hne
  go_enter Try.func34, Try.ntmps34
  go_upto_region 1 with fail
  rw [← HW_wb1.out]
  rw [← HW_w1.out]
  go_upto_region 5 with fail
  go_loopw [5, 20] (fun v5 v20 wr => ∃ k z : Nat, v5 = .int .i64 (z : Int) ∧ v20 = .int .i64 (k : Int) ∧ k ≤ s.li.n ∧ z ≤ k * 140737488355328 ∧ Hid (FkMany F.gn p.li k z) ∧ Below w1.heap.size w1 wr) (fun _ v _ => s.li.n - (intOf v).toNat)
  case atStart => exact ⟨0, 0, rfl, rfl, Nat.zero_le _, Nat.zero_le _, Lib.hid FkMany.zero, hA0⟩
  case round =>
    obtain ⟨k, z, rfl, rfl, hk, hz, hpre, hA⟩ := hrel
    have HPRE := hpre
    clear hpre
    by_cases hin : k < s.li.n
    rotate_left
    · have q1 : decide ((k : Int) < (s.li.n : Int)) = false := by simp; omega
      have q2 : decide (k < s.li.n) = false := by simp; omega
      have hge : s.li.n ≤ k := by omega
      clear hin
      by_cases hz2 : z ≤ 4096
      · have u1 : decide ((z : Int) ≤ 4096) = true := by simp; omega
        have u2 : decide (z ≤ 4096) = true := by simp; omega
        have HALL := Lib.hid (show FkLigs F.gn p.li from HPRE.out.done (by omega) hz2)
        go_wp2_with fail
        go_ret
        exact ⟨true, rfl, (fun _ => HALL.out), HB1.out.trans (hA.mono (by omega))⟩
      · have u1 : decide ((z : Int) ≤ 4096) = false := by simp; omega
        have u2 : decide (z ≤ 4096) = false := by simp; omega
        go_wp2_with fail
        go_ret
        exact ⟨false, rfl, (fun h => by cases h), HB1.out.trans (hA.mono (by omega))⟩
    · have q1 : decide ((k : Int) < (s.li.n : Int)) = true := by simp; omega
      have q2 : decide (k < s.li.n) = true := by simp; omega
      have sk : IntKind.i64.wrap ((k : Int) + 1) = (k : Int) + 1 := by rw [IntKind.wrap_i64]; omega
      obtain ⟨r, b, o, cs, hr, eA, hbb, hc, A', n', c', rfl, hin2⟩ := SlR.at_ HL.out hin
      have d0 := hc 0 _ rfl
      have d0 := (hA.cell (p := ⟨b, o + k * 1 + 0, none⟩) (by show b < _; omega)).trans d0
      rw [Nat.mul_one, Nat.add_zero] at d0
      have HEA := Lib.hid eA
      have hrl := SlR.length hin2
      have hrc := SlR.cap hin2
      have hr47 : n' ≤ 140737488355328 := by have h0 := HROW.out r (List.mem_of_getElem? hr); rwa [hrl] at h0
      have HRK := Lib.hid hr
      have HR := Lib.hid hin2
      have szk : IntKind.i64.wrap ((z : Int) + (n' : Int)) = ((z + n' : Nat) : Int) := by rw [IntKind.wrap_i64]; omega
      clear hc eA hr hin2
      rw [HEA.out]
      go_upto_region 9 with fail
      obtain ⟨wo, hwo⟩ : ∃ wo : World, wo = wr := ⟨_, rfl⟩
      subst hwo
      go_loopw [30] (fun v wr => ∃ j : Nat, v = .int .i64 (j : Int) ∧ j ≤ n' ∧ Hid (∀ x ∈ r.take j, FkLig F.gn x) ∧ Below w1.heap.size w1 wr) (fun v _ => n' - (intOf v).toNat)
      case atStart => exact ⟨0, rfl, Nat.zero_le _, Lib.hid (fun x hx => by simp at hx), hA⟩
      case round =>
        obtain ⟨j, rfl, hj, hpre, hA⟩ := hrel
        have HIN := hpre
        clear hpre
        by_cases hjn : j < n'
        rotate_left
        · have r1 : decide ((j : Int) < (n' : Int)) = false := by simp; omega
          have r2 : decide (j < n') = false := by simp; omega
          have HDONE := Lib.hid (show ∀ x ∈ r, FkLig F.gn x by have h0 := HIN.out; rwa [List.take_of_length_le (by omega)] at h0)
          clear hjn
          go_wp2_with fail
          go_roundw
          case rel => exact ⟨k + 1, z + n', rfl, by go_num, by omega, by omega, Lib.hid (by have h0 := HPRE.out.next HRK.out HDONE.out; rwa [hrl] at h0), hA⟩
          case measure => simp [intOf] <;> omega
        · have r1 : decide ((j : Int) < (n' : Int)) = true := by simp; omega
          have r2 : decide (j < n') = true := by simp; omega
          have sj : IntKind.i64.wrap ((j : Int) + 1) = (j : Int) + 1 := by rw [IntKind.wrap_i64]; omega
          obtain ⟨x, b2, o2, cs2, hx, eA2, hbb2, hc2, Ap, np, cp, rfl, hpz⟩ := SlR.at_ HR.out hjn
          have f0 := (hA.cell (p := ⟨b2, o2 + j * 2 + 0, none⟩) (by show b2 < _; omega)).trans (hc2 0 _ rfl)
          have f1 := (hA.cell (p := ⟨b2, o2 + j * 2 + 1, none⟩) (by show b2 < _; omega)).trans (hc2 1 _ rfl)
          rw [Nat.add_zero] at f0
          obtain ⟨xp, gl⟩ := x
          have HEA2 := Lib.hid eA2
          have HXJ := Lib.hid hx
          have hpl := hpz.length
          have hpc := hpz.cap
          obtain ⟨t1, ht1⟩ : ∃ q, q = xp.all (fkT F.gn) := ⟨_, rfl⟩
          obtain ⟨t2, ht2⟩ : ∃ q, q = [gl].all (fkT F.gn) := ⟨_, rfl⟩
          have HT1 := Lib.hid (fun W (hW : Below w1.heap.size w1 W) => show Calls Try.prog 26 #[.agg #[.int .i64 F.em, .slice F.GA F.gn F.gc, .slice F.MA F.mn F.mc, .slice F.LA F.ln F.lc, .slice F.FA F.fn F.fc, .slice F.SA F.sn F.sc], .slice Ap np cp] W (RetV W t1) from by rw [ht1]; exact kthere_any F B Ap np cp xp W hgn (hpz.below (hW.mono (by omega))) (by have := hW.size; omega))
          have HT2 := Lib.hid (fun W {A2 : Option Addr} {n2 c2 : Nat} (_ : Below w1.heap.size w1 W) (hi : Ints W W.heap.size A2 n2 c2 [gl]) => show Calls Try.prog 26 #[.agg #[.int .i64 F.em, .slice F.GA F.gn F.gc, .slice F.MA F.mn F.mc, .slice F.LA F.ln F.lc, .slice F.FA F.fn F.fc, .slice F.SA F.sn F.sc], .slice A2 n2 c2] W (RetV W t2) from by rw [ht2]; exact kthere_any F W.heap.size A2 n2 c2 [gl] W hgn hi (Nat.le_refl _))
          have HQ1 := Lib.hid ht1.symm
          have HQ2 := Lib.hid ht2.symm
          clear hc2 eA2 hx hpz ht1 ht2
          rw [HEA2.out]
          go_upto_region 11 with fail
          obtain ⟨w3, hw3⟩ : ∃ z, z = wr.alloc (.cells #[.slice Ap np cp, .int .i64 gl] 108) := ⟨_, rfl⟩
          obtain ⟨bx, hbx⟩ : ∃ z, z = wr.heap.size := ⟨_, rfl⟩
          rw [← hw3, ← hbx]
          have hA3 := (show Below w1.heap.size w1 w3 by rw [hw3]; exact hA.alloc hA.size _)
          have hX : w3.heap[bx]? = some (.cells #[.slice Ap np cp, .int .i64 gl] 108 (0, 0)) := by rw [hw3, hbx]; exact heap_alloc_new _ _
          have x0 := up_fact (show w3.cell? ⟨bx, 0, none⟩ = some (.slice Ap np cp) by rw [cell_of_row _ _ 0 _ _ _ hX]; rfl)
          have x1 := up_fact (show w3.cell? ⟨bx, 1, none⟩ = some (.int .i64 gl) by rw [cell_of_row _ _ 1 _ _ _ hX]; rfl)
          have hC := Below.refl w3.heap.size w3
          clear hX hw3 hbx
          cases hw : fkW (np : Int) 1 15 with
          | false =>
            go_wp2_with (first | (go_at_call 23; refine (kwithin_any _ _ _ _).mono ?_; rintro e w9 ⟨rfl, rfl⟩))
            go_ret
            exact ⟨false, rfl, (fun h => by cases h), HB1.out.trans (hA3.mono (by omega))⟩
          | true =>
            cases t1 with
            | false =>
              go_wp2_with (first | (go_at_call 23; refine (kwithin_any _ _ _ _).mono ?_; rintro e w9 ⟨rfl, rfl⟩) | (go_at_call 26; refine (HT1.out _ hA3).mono ?_; rintro e w4 ⟨rfl, hb4⟩; have hA4 := bgo hA3 hb4))
              go_ret
              exact ⟨false, rfl, (fun h => by cases h), HB1.out.trans (hA4.mono (by omega))⟩
            | true =>
              cases t2 with
              | false =>
                go_wp2_with (first | (go_at_call 23; refine (kwithin_any _ _ _ _).mono ?_; rintro e w9 ⟨rfl, rfl⟩) | (go_at_call 26; refine (HT2.out _ (hA4.alloc hA4.size _) (Ints.lit1 _ _ _)).mono ?_; rintro e w5 ⟨rfl, hb5⟩; have hA5 := bgo (hA4.alloc hA4.size _) hb5) | (go_at_call 26; refine (HT1.out _ hA3).mono ?_; rintro e w4 ⟨rfl, hb4⟩; have hA4 := bgo hA3 hb4))
                go_ret
                exact ⟨false, rfl, (fun h => by cases h), HB1.out.trans (hA5.mono (by omega))⟩
              | true =>
                have HGOOD := Lib.hid (show FkLig F.gn (xp, gl) from ⟨by rw [hpl]; exact hw, HQ1.out, HQ2.out⟩)
                go_wp2_with (first | (go_at_call 23; refine (kwithin_any _ _ _ _).mono ?_; rintro e w9 ⟨rfl, rfl⟩) | (go_at_call 26; refine (HT2.out _ (hA4.alloc hA4.size _) (Ints.lit1 _ _ _)).mono ?_; rintro e w5 ⟨rfl, hb5⟩; have hA5 := bgo (hA4.alloc hA4.size _) hb5) | (go_at_call 26; refine (HT1.out _ hA3).mono ?_; rintro e w4 ⟨rfl, hb4⟩; have hA4 := bgo hA3 hb4))
                go_roundw
                case rel => exact ⟨j + 1, by go_num, by omega, Lib.hid (fun x hx => by
                  rw [List.take_add_one, HXJ.out, Option.toList_some, List.mem_append, List.mem_singleton] at hx
                  rcases hx with hx | rfl
                  · exact HIN.out x hx
                  · exact HGOOD.out), hA5⟩
                case measure => simp [intOf] <;> omega

end Go.Proofs.Ytngdolmmaiogiaa
