/- Joined: FkO FkP GoodP KpQ ExP. -/
import Derived.Test.YtngdolmmaiogiaaJ34
import Derived.Test.YtngdolmmaiogiaaJ35
import Derived.Test.YtngdolmmaiogiaaJ26
import Derived.Test.YtngdolmmaiogiaaJ29
import Derived.Test.YtngdolmmaiogiaaJ30
import Derived.Test.YtngdolmmaiogiaaJ18
import Derived.Test.YtngdolmmaiogiaaJ23

/- The walk of lookup of the check. Condition: the subtables and the lookups read as plain data. Printed by wip/tools/g32n.py. Printed by wip/tools. -/
namespace Go.Proofs.Ytngdolmmaiogiaa
open Go.RowKit

/-- rows are no longer than may be -/
theorem SubOk.rows {w : World} {B : Nat} {s : Sb} {p : PSu} (h : SubOk w B s p) : ∀ r ∈ p.li, r.length ≤ 140737488355328 := fun r hr => by
  obtain ⟨k, hk, rfl⟩ := List.getElem_of_mem hr
  have hl := SlR.length h.li
  obtain ⟨q, b, o, cs, hq, eA, hb, hc, A, n, c, rfl, hrow⟩ := SlR.at_ h.li (by omega : k < s.li.n)
  obtain ⟨b', o', A', n', c', eA', hb', hc', hsh⟩ := h.ok.li.atSl (by omega : k < s.li.n)
  rw [eA] at eA'
  cases eA'
  have h0 := hc 0 _ rfl
  rw [Nat.mul_one, Nat.add_zero, hc'] at h0
  cases h0
  rw [List.getElem?_eq_getElem hk] at hq
  cases hq
  have := SlR.length hrow
  have := hsh.len
  omega
def sbCells (s : Sb) : List Value := [.slice s.co.A s.co.n s.co.c, .slice s.tt.A s.tt.n s.tt.c, .slice s.li.A s.li.n s.li.c, .slice s.ba.A s.ba.n s.ba.c, .slice s.inn.A s.inn.n s.inn.c, .slice s.ah.A s.ah.n s.ah.c, .slice s.ne.A s.ne.n s.ne.c, .slice s.va.A s.va.n s.va.c, .slice s.pr.A s.pr.n s.pr.c, .slice s.cu.A s.cu.n s.cu.c, .slice s.ma.A s.ma.n s.ma.c, .slice s.ho.A s.ho.n s.ho.c]
/-- a subtable that the check lets be -/
def ExP (m : Nat) (ls : List PK) (ki : Int) (p : PSu) : Prop :=
  ((ki = 1 ∨ ki = 2) ∧ p.co.length ≤ 1 ∧ p.co.all (fkT m) = true ∧ FkTo m ki p.co p.tt) ∨
  (ki = 4 ∧ fkW (p.inn.length : Int) 1 16 = true ∧ (∀ zs ∈ p.inn, zs.length ≤ 1 ∧ zs.all (fkT m) = true) ∧ p.ba = [] ∧ p.ah = [] ∧ FkNests ls ki p.inn.length p.ne)
theorem ExP.sub {m : Nat} {ls : List PK} {ki : Int} {p : PSu} {b : Bool} (h : ExP m ls ki p) (hb : FkSub m ls ki p b) : b = true := by
  rcases h with ⟨h1, h2, h3, h4⟩ | ⟨h1, h2, h3, h4, h5, h6⟩
  · exact hb.ex1 h1 h2 h3 h4
  · exact hb.ex4 h1 h2 h3 h4 h5 h6
/-- a lookup that the check lets be -/
def ExLk (w : World) (m : Nat) (ls : List PK) (l : Lk) (su : List PSu) : Prop :=
  l.fl = 0 ∧ l.se = 0 ∧ (l.ki = 1 ∨ l.ki = 2 ∨ l.ki = 4) ∧ su.length ≤ 64 ∧
  ∀ k p, su[k]? = some p → ∃ b o s, l.su.A = some ⟨b, o, none⟩ ∧ (∀ (j : Nat) v, (sbCells s)[j]? = some v → w.cell? ⟨b, o + k * 12 + j, none⟩ = some v) ∧ AlCond l.ki s ∧ ExP m ls l.ki p
theorem sb_same {w : World} {b o : Nat} {s s' : Sb} (h : ∀ (j : Nat) v, (sbCells s)[j]? = some v → w.cell? ⟨b, o + j, none⟩ = some v) (h' : ∀ (j : Nat) v, (sbCells s')[j]? = some v → w.cell? ⟨b, o + j, none⟩ = some v) : s = s' := by
  have e : ∀ (j : Nat) v v', (sbCells s)[j]? = some v → (sbCells s')[j]? = some v' → v = v' := fun j v v' h1 h2 => Option.some.inj ((h j v h1).symm.trans (h' j v' h2))
  obtain ⟨⟨p0, pn0, pc0⟩, ⟨p1, pn1, pc1⟩, ⟨p2, pn2, pc2⟩, ⟨p3, pn3, pc3⟩, ⟨p4, pn4, pc4⟩, ⟨p5, pn5, pc5⟩, ⟨p6, pn6, pc6⟩, ⟨p7, pn7, pc7⟩, ⟨p8, pn8, pc8⟩, ⟨p9, pn9, pc9⟩, ⟨p10, pn10, pc10⟩, ⟨p11, pn11, pc11⟩⟩ := s
  obtain ⟨⟨q0, qn0, qc0⟩, ⟨q1, qn1, qc1⟩, ⟨q2, qn2, qc2⟩, ⟨q3, qn3, qc3⟩, ⟨q4, qn4, qc4⟩, ⟨q5, qn5, qc5⟩, ⟨q6, qn6, qc6⟩, ⟨q7, qn7, qc7⟩, ⟨q8, qn8, qc8⟩, ⟨q9, qn9, qc9⟩, ⟨q10, qn10, qc10⟩, ⟨q11, qn11, qc11⟩⟩ := s'
  have e0 := e 0 _ _ rfl rfl
  simp only [Value.slice.injEq] at e0
  obtain ⟨rfl, rfl, rfl⟩ := e0
  have e1 := e 1 _ _ rfl rfl
  simp only [Value.slice.injEq] at e1
  obtain ⟨rfl, rfl, rfl⟩ := e1
  have e2 := e 2 _ _ rfl rfl
  simp only [Value.slice.injEq] at e2
  obtain ⟨rfl, rfl, rfl⟩ := e2
  have e3 := e 3 _ _ rfl rfl
  simp only [Value.slice.injEq] at e3
  obtain ⟨rfl, rfl, rfl⟩ := e3
  have e4 := e 4 _ _ rfl rfl
  simp only [Value.slice.injEq] at e4
  obtain ⟨rfl, rfl, rfl⟩ := e4
  have e5 := e 5 _ _ rfl rfl
  simp only [Value.slice.injEq] at e5
  obtain ⟨rfl, rfl, rfl⟩ := e5
  have e6 := e 6 _ _ rfl rfl
  simp only [Value.slice.injEq] at e6
  obtain ⟨rfl, rfl, rfl⟩ := e6
  have e7 := e 7 _ _ rfl rfl
  simp only [Value.slice.injEq] at e7
  obtain ⟨rfl, rfl, rfl⟩ := e7
  have e8 := e 8 _ _ rfl rfl
  simp only [Value.slice.injEq] at e8
  obtain ⟨rfl, rfl, rfl⟩ := e8
  have e9 := e 9 _ _ rfl rfl
  simp only [Value.slice.injEq] at e9
  obtain ⟨rfl, rfl, rfl⟩ := e9
  have e10 := e 10 _ _ rfl rfl
  simp only [Value.slice.injEq] at e10
  obtain ⟨rfl, rfl, rfl⟩ := e10
  have e11 := e 11 _ _ rfl rfl
  simp only [Value.slice.injEq] at e11
  obtain ⟨rfl, rfl, rfl⟩ := e11
  rfl
set_option maxRecDepth 100000 in
set_option maxHeartbeats 4000000 in
theorem klookup_any (F : Fnt) (B : Nat) (l : Lk) (su : List PSu) (ls : List PK) (w : World) (hgn : F.gn ≤ 9223372036854775807) (hsn : F.sn ≤ 9223372036854775807) (h : KsR w B l.su.A l.su.n l.su.c su) (hL : SlR w B 4 (LkR w B) F.LA F.ln F.lc ls) (hB : B ≤ w.heap.size) :
    Calls Try.prog 19 #[.agg #[.int .i64 F.em, .slice F.GA F.gn F.gc, .slice F.MA F.mn F.mc, .slice F.LA F.ln F.lc, .slice F.FA F.fn F.fc, .slice F.SA F.sn F.sc], .agg #[.int .i64 l.ki, .int .i64 l.fl, .int .i64 l.se, .slice l.su.A l.su.n l.su.c]] w (RetB w (fun b => (b = true → 1 ≤ l.ki ∧ l.ki ≤ 12 ∧ su.length ≤ 64 ∧ ∀ p ∈ su, FkSub F.gn ls l.ki p true) ∧ (ExLk w F.gn ls l su → b = true))) := by
  have hkl := SlR.length h
  have hkc := SlR.cap h
  have hll := SlR.length hL
  have hlc := SlR.cap hL
  have hKS0 := Lib.hid h
  have hLS0 := Lib.hid hL
  clear h hL
  obtain ⟨wb1, hw_wb1⟩ : ∃ z, z = w.alloc (.cells #[.int .i64 F.em, .slice F.GA F.gn F.gc, .slice F.MA F.mn F.mc, .slice F.LA F.ln F.lc, .slice F.FA F.fn F.fc, .slice F.SA F.sn F.sc] 71) := ⟨_, rfl⟩
  have hs_wb1 : wb1.heap.size = w.heap.size + 1 := by rw [hw_wb1]; simp
  have hb_wb1 : Below w.heap.size w wb1 := by rw [hw_wb1]; exact (Below.refl _ _).alloc (Nat.le_refl _) _
  have hx_0 : wb1.heap[w.heap.size]? = some (.cells #[.int .i64 F.em, .slice F.GA F.gn F.gc, .slice F.MA F.mn F.mc, .slice F.LA F.ln F.lc, .slice F.FA F.fn F.fc, .slice F.SA F.sn F.sc] 71 (0, 0)) := by rw [hw_wb1]; exact heap_alloc_new _ _
  obtain ⟨w1, hw_w1⟩ : ∃ z, z = wb1.alloc (.cells #[.int .i64 l.ki, .int .i64 l.fl, .int .i64 l.se, .slice l.su.A l.su.n l.su.c] 36) := ⟨_, rfl⟩
  have hs_w1 : w1.heap.size = w.heap.size + 2 := by rw [hw_w1]; simp <;> omega
  have hb_w1 : Below w.heap.size w w1 := by rw [hw_w1]; exact hb_wb1.alloc (by omega) _
  have hx_1 : w1.heap[w.heap.size + 1]? = some (.cells #[.int .i64 l.ki, .int .i64 l.fl, .int .i64 l.se, .slice l.su.A l.su.n l.su.c] 36 (0, 0)) := by rw [hw_w1]; exact (hs_wb1 ▸ heap_alloc_new wb1 _)
  have hx_0 : w1.heap[w.heap.size]? = some (.cells #[.int .i64 F.em, .slice F.GA F.gn F.gc, .slice F.MA F.mn F.mc, .slice F.LA F.ln F.lc, .slice F.FA F.fn F.fc, .slice F.SA F.sn F.sc] 71 (0, 0)) := by rw [hw_w1]; exact (heap_alloc_old _ _ (by omega)).trans hx_0
  have g0 := up_fact (show w1.cell? ⟨w.heap.size, 0, none⟩ = some (.int .i64 F.em) by rw [cell_of_row _ _ 0 _ _ _ hx_0]; rfl)
  have g1 := up_fact (show w1.cell? ⟨w.heap.size, 1, none⟩ = some (.slice F.GA F.gn F.gc) by rw [cell_of_row _ _ 1 _ _ _ hx_0]; rfl)
  have g2 := up_fact (show w1.cell? ⟨w.heap.size, 2, none⟩ = some (.slice F.MA F.mn F.mc) by rw [cell_of_row _ _ 2 _ _ _ hx_0]; rfl)
  have g3 := up_fact (show w1.cell? ⟨w.heap.size, 3, none⟩ = some (.slice F.LA F.ln F.lc) by rw [cell_of_row _ _ 3 _ _ _ hx_0]; rfl)
  have g4 := up_fact (show w1.cell? ⟨w.heap.size, 4, none⟩ = some (.slice F.FA F.fn F.fc) by rw [cell_of_row _ _ 4 _ _ _ hx_0]; rfl)
  have g5 := up_fact (show w1.cell? ⟨w.heap.size, 5, none⟩ = some (.slice F.SA F.sn F.sc) by rw [cell_of_row _ _ 5 _ _ _ hx_0]; rfl)
  have h0 := up_fact (show w1.cell? ⟨w.heap.size + 1, 0, none⟩ = some (.int .i64 l.ki) by rw [cell_of_row _ _ 0 _ _ _ hx_1]; rfl)
  have h1 := up_fact (show w1.cell? ⟨w.heap.size + 1, 1, none⟩ = some (.int .i64 l.fl) by rw [cell_of_row _ _ 1 _ _ _ hx_1]; rfl)
  have h2 := up_fact (show w1.cell? ⟨w.heap.size + 1, 2, none⟩ = some (.int .i64 l.se) by rw [cell_of_row _ _ 2 _ _ _ hx_1]; rfl)
  have h3 := up_fact (show w1.cell? ⟨w.heap.size + 1, 3, none⟩ = some (.slice l.su.A l.su.n l.su.c) by rw [cell_of_row _ _ 3 _ _ _ hx_1]; rfl)
  have hA0 := Below.refl w1.heap.size w1
  have HS1 := Lib.hid hs_w1
  have hs1 : w.heap.size + 1 < w1.heap.size := by omega
  have HB1 := Lib.hid hb_w1
  have HW_wb1 := Lib.hid hw_wb1
  have HW_w1 := Lib.hid hw_w1
  clear hw_wb1 hs_wb1 hb_wb1 hw_w1 hs_w1 hb_w1
  clear hx_0 hx_1
  have HKS := Lib.hid (KsR.below hKS0.out (HB1.out.mono hB))
  have HLS := Lib.hid (SlR.below hLS0.out (HB1.out.mono hB) fun _ _ h => LkR.below h (HB1.out.mono hB))
  have ssn : IntKind.i64.wrap ((F.sn : Int) - 1) = (F.sn : Int) - 1 := by rw [IntKind.wrap_i64]; omega
  obtain ⟨u, hu⟩ : ∃ z, (bits BinOp.andNot IntKind.i64 (bits BinOp.and IntKind.i64 l.fl 255) 30 != 0) = z := ⟨_, rfl⟩
  have HU := Lib.hid (show l.fl = 0 → u = false from fun h => by rw [← hu, h]; rfl)
  obtain ⟨c16, hc16⟩ : ∃ z, (bits BinOp.and IntKind.i64 l.fl 16 != 0) = z := ⟨_, rfl⟩
  have hd16 : (bits BinOp.and IntKind.i64 l.fl 16 == 0) = !c16 := by rw [← hc16, bne, Bool.not_not]
  have HC16 := Lib.hid (show l.fl = 0 → c16 = false from fun h => by rw [← hc16, h]; rfl)
  go_enter Try.func19, Try.ntmps19
  go_upto_region 1 with fail
  rw [← HW_wb1.out]
  rw [← HW_w1.out]
  go_cut [29] (fun v W => ∃ t : Bool, v = .bool t ∧ W = w1 ∧ Hid ((t = false → 1 ≤ l.ki ∧ l.ki ≤ 12 ∧ l.su.n ≤ 64) ∧ (t = true → ¬ ExLk w F.gn ls l su)))
  case first =>
    cases hw1 : fkW l.ki 1 12 with
    | false =>
      have HN := Lib.hid (show ¬ ExLk w F.gn ls l su from fun h => by
        have h0 : fkW l.ki 1 12 = true := fkW_iff.2 (by have := h.2.2.1; omega)
        rw [h0] at hw1; cases hw1)
      go_wp2_with (first | (go_at_call 23; refine (kwithin_any _ _ _ _).mono ?_; rintro e w9 ⟨rfl, rfl⟩))
      go_meet
      exact ⟨true, rfl, rfl, Lib.hid ⟨(fun h => by cases h), (fun _ => HN.out)⟩⟩
    | true =>
      have hk := fkW_iff.1 hw1
      have HK := Lib.hid hk
      clear hk
      cases hw2 : fkW l.fl 0 65535 with
      | false =>
        have HN := Lib.hid (show ¬ ExLk w F.gn ls l su from fun h => by rw [h.1] at hw2; exact absurd hw2 (by decide))
        go_wp2_with (first | (go_at_call 23; refine (kwithin_any _ _ _ _).mono ?_; rintro e w9 ⟨rfl, rfl⟩))
        go_meet
        exact ⟨true, rfl, rfl, Lib.hid ⟨(fun h => by cases h), (fun _ => HN.out)⟩⟩
      | true =>
        cases u with
        | true =>
          have HN := Lib.hid (show ¬ ExLk w F.gn ls l su from fun h => by cases HU.out h.1)
          go_wp2_with (first | (go_at_call 23; refine (kwithin_any _ _ _ _).mono ?_; rintro e w9 ⟨rfl, rfl⟩))
          go_meet
          exact ⟨true, rfl, rfl, Lib.hid ⟨(fun h => by cases h), (fun _ => HN.out)⟩⟩
        | false =>
          by_cases h64 : l.su.n ≤ 64
          · have u1 : decide ((64 : Int) < (l.su.n : Int)) = false := by simp; omega
            have u2 : decide (64 < l.su.n) = false := by simp; omega
            have H64 := Lib.hid h64
            clear h64
            go_wp2_with (first | (go_at_call 23; refine (kwithin_any _ _ _ _).mono ?_; rintro e w9 ⟨rfl, rfl⟩))
            go_meet
            exact ⟨false, rfl, rfl, Lib.hid ⟨(fun _ => ⟨HK.out.1, HK.out.2, H64.out⟩), (fun h => by cases h)⟩⟩
          · have u1 : decide ((64 : Int) < (l.su.n : Int)) = true := by simp; omega
            have u2 : decide (64 < l.su.n) = true := by simp; omega
            have HN := Lib.hid (show ¬ ExLk w F.gn ls l su from fun h => by have := h.2.2.2.1; omega)
            clear h64
            go_wp2_with (first | (go_at_call 23; refine (kwithin_any _ _ _ _).mono ?_; rintro e w9 ⟨rfl, rfl⟩))
            go_meet
            exact ⟨true, rfl, rfl, Lib.hid ⟨(fun h => by cases h), (fun _ => HN.out)⟩⟩
  obtain ⟨t, rfl, hwc, HT⟩ := hcut
  subst hwc
  clear hu
  rcases t with _ | _
  rotate_left
  · go_wp2_with fail
    go_ret
    exact ⟨false, rfl, ⟨(fun h => by cases h), fun h => absurd h (HT.out.2 (by trivial))⟩, HB1.out⟩
  have hki := HT.out.1 (by trivial)
  clear HT
  go_upto_region 3 with fail
  obtain ⟨wo, hwo⟩ : ∃ wo : World, wo = wc := ⟨_, rfl⟩
  subst hwo
  go_cut [55] (fun v W => ∃ t : Bool, v = .bool t ∧ W = wo ∧ Hid (t = true → ¬ ExLk w F.gn ls l su))
  case first =>
    cases c16 with
    | true =>
      have HN := Lib.hid (show ¬ ExLk w F.gn ls l su from fun h => by cases HC16.out h.1)
      cases hw3 : fkW l.se 0 ((F.sn : Int) - 1) with
      | true =>
        go_wp2_with (first | (go_at_call 23; refine (kwithin_any _ _ _ _).mono ?_; rintro e w9 ⟨rfl, rfl⟩))
        go_meet
        exact ⟨_, rfl, rfl, Lib.hid (fun _ => HN.out)⟩
      | false =>
        go_wp2_with (first | (go_at_call 23; refine (kwithin_any _ _ _ _).mono ?_; rintro e w9 ⟨rfl, rfl⟩))
        go_meet
        exact ⟨_, rfl, rfl, Lib.hid (fun _ => HN.out)⟩
    | false =>
      by_cases hse : l.se = 0
      · have v1 : (l.se == 0) = true := by simp [hse]
        have v2 : (l.se != 0) = false := by simp [hse]
        clear hse
        go_wp2_with fail
        go_meet
        exact ⟨false, rfl, rfl, Lib.hid (fun h => by cases h)⟩
      · have v1 : (l.se == 0) = false := by simp [hse]
        have v2 : (l.se != 0) = true := by simp [hse]
        have HN := Lib.hid (show ¬ ExLk w F.gn ls l su from fun h => hse h.2.1)
        clear hse
        go_wp2_with fail
        go_meet
        exact ⟨true, rfl, rfl, Lib.hid (fun _ => HN.out)⟩
  obtain ⟨t, rfl, hwc, HT⟩ := hcut
  subst hwc
  clear hc16 hd16
  rcases t with _ | _
  rotate_left
  · go_wp2_with fail
    go_ret
    exact ⟨false, rfl, ⟨(fun h => by cases h), fun h => absurd h (HT.out (by trivial))⟩, HB1.out⟩
  clear HT
  go_upto_region 6 with fail
  obtain ⟨w1, hw1⟩ : ∃ z : World, z = wc := ⟨_, rfl⟩
  subst hw1
  go_loopw [59] (fun v wr => ∃ k : Nat, v = .int .i64 (k : Int) ∧ k ≤ l.su.n ∧ Below w1.heap.size w1 wr ∧ Hid (∀ p ∈ su.take k, FkSub F.gn ls l.ki p true)) (fun v _ => l.su.n - (intOf v).toNat)
  case atStart => exact ⟨0, rfl, Nat.zero_le _, hA0, Lib.hid (fun p hp => by simp at hp)⟩
  case round =>
    obtain ⟨k, rfl, hk, hA, HPRE⟩ := hrel
    by_cases hin : k < l.su.n
    rotate_left
    · have r1 : decide ((k : Int) < (l.su.n : Int)) = false := by simp; omega
      have r2 : decide (k < l.su.n) = false := by simp; omega
      have HALL := Lib.hid (show ∀ p ∈ su, FkSub F.gn ls l.ki p true by have h0 := HPRE.out; rwa [List.take_of_length_le (by omega)] at h0)
      clear hin
      go_wp2_with fail
      go_ret
      exact ⟨true, rfl, ⟨(fun _ => ⟨hki.1, hki.2.1, by omega, HALL.out⟩), fun _ => rfl⟩, HB1.out.trans (hA.mono (by omega))⟩
    have r1 : decide ((k : Int) < (l.su.n : Int)) = true := by simp; omega
    have r2 : decide (k < l.su.n) = true := by simp; omega
    have sk : IntKind.i64.wrap ((k : Int) + 1) = (k : Int) + 1 := by rw [IntKind.wrap_i64]; omega
    obtain ⟨p, b, o, cs, hp, eA, hbb, hc, s, rfl, hs⟩ := SlR.at_ HKS.out hin
    have HEX := Lib.hid (show ExLk w F.gn ls l su → AlCond l.ki s ∧ ExP F.gn ls l.ki p from fun hx => by
      obtain ⟨b', o', s', e', hc', h1, h2⟩ := hx.2.2.2.2 k p hp
      rw [eA] at e'
      cases e'
      have es : s' = s := sb_same (w := w1) (b := b) (o := o + k * 12) (fun j v hj => (HB1.out.cell (World.block_lt_of_cell? w _ (hc' j v hj))).trans (hc' j v hj)) (fun j v hj => hc j v hj)
      rw [← es]
      exact ⟨h1, h2⟩)
    have y0 := (hA.cell (p := ⟨b, o + k * 12 + 0, none⟩) (by show b < _; omega)).trans (hc 0 _ rfl)
    have y1 := (hA.cell (p := ⟨b, o + k * 12 + 1, none⟩) (by show b < _; omega)).trans (hc 1 _ rfl)
    have y2 := (hA.cell (p := ⟨b, o + k * 12 + 2, none⟩) (by show b < _; omega)).trans (hc 2 _ rfl)
    have y3 := (hA.cell (p := ⟨b, o + k * 12 + 3, none⟩) (by show b < _; omega)).trans (hc 3 _ rfl)
    have y4 := (hA.cell (p := ⟨b, o + k * 12 + 4, none⟩) (by show b < _; omega)).trans (hc 4 _ rfl)
    have y5 := (hA.cell (p := ⟨b, o + k * 12 + 5, none⟩) (by show b < _; omega)).trans (hc 5 _ rfl)
    have y6 := (hA.cell (p := ⟨b, o + k * 12 + 6, none⟩) (by show b < _; omega)).trans (hc 6 _ rfl)
    have y7 := (hA.cell (p := ⟨b, o + k * 12 + 7, none⟩) (by show b < _; omega)).trans (hc 7 _ rfl)
    have y8 := (hA.cell (p := ⟨b, o + k * 12 + 8, none⟩) (by show b < _; omega)).trans (hc 8 _ rfl)
    have y9 := (hA.cell (p := ⟨b, o + k * 12 + 9, none⟩) (by show b < _; omega)).trans (hc 9 _ rfl)
    have y10 := (hA.cell (p := ⟨b, o + k * 12 + 10, none⟩) (by show b < _; omega)).trans (hc 10 _ rfl)
    have y11 := (hA.cell (p := ⟨b, o + k * 12 + 11, none⟩) (by show b < _; omega)).trans (hc 11 _ rfl)
    rw [Nat.add_zero] at y0
    have HPK := Lib.hid hp
    have HMEM := Lib.hid (List.mem_of_getElem? hp)
    have HS := Lib.hid hs
    have HEA := Lib.hid eA
    have HAL := Lib.hid (fun W (hW : Below w1.heap.size w1 W) => kalone_any l.ki B s W (HS.out.ok.below (hW.mono (by omega))) hki.1 hki.2.1)
    have HSU := Lib.hid (fun W (hW : Below w1.heap.size w1 W) => ksub_any F B l.ki s p ls W hgn (HS.out.below (hW.mono (by omega))) (SlR.below HLS.out (hW.mono (by omega)) fun _ _ h => LkR.below h (hW.mono (by omega))) (by have := hW.size; omega) HS.out.rows)
    clear hc hp hs eA
    rw [HEA.out]
    go_upto_region 8 with fail
    obtain ⟨w3, hw3⟩ : ∃ z, z = wr.alloc (.cells #[.slice s.co.A s.co.n s.co.c, .slice s.tt.A s.tt.n s.tt.c, .slice s.li.A s.li.n s.li.c, .slice s.ba.A s.ba.n s.ba.c, .slice s.inn.A s.inn.n s.inn.c, .slice s.ah.A s.ah.n s.ah.c, .slice s.ne.A s.ne.n s.ne.c, .slice s.va.A s.va.n s.va.c, .slice s.pr.A s.pr.n s.pr.c, .slice s.cu.A s.cu.n s.cu.c, .slice s.ma.A s.ma.n s.ma.c, .slice s.ho.A s.ho.n s.ho.c] 60) := ⟨_, rfl⟩
    obtain ⟨bx, hbx⟩ : ∃ z, z = wr.heap.size := ⟨_, rfl⟩
    rw [← hw3, ← hbx]
    have hA3 := (show Below w1.heap.size w1 w3 by rw [hw3]; exact hA.alloc hA.size _)
    have hX : w3.heap[bx]? = some (.cells #[.slice s.co.A s.co.n s.co.c, .slice s.tt.A s.tt.n s.tt.c, .slice s.li.A s.li.n s.li.c, .slice s.ba.A s.ba.n s.ba.c, .slice s.inn.A s.inn.n s.inn.c, .slice s.ah.A s.ah.n s.ah.c, .slice s.ne.A s.ne.n s.ne.c, .slice s.va.A s.va.n s.va.c, .slice s.pr.A s.pr.n s.pr.c, .slice s.cu.A s.cu.n s.cu.c, .slice s.ma.A s.ma.n s.ma.c, .slice s.ho.A s.ho.n s.ho.c] 60 (0, 0)) := by rw [hw3, hbx]; exact heap_alloc_new _ _
    have x0 := up_fact (show w3.cell? ⟨bx, 0, none⟩ = some (.slice s.co.A s.co.n s.co.c) by rw [cell_of_row _ _ 0 _ _ _ hX]; rfl)
    have x1 := up_fact (show w3.cell? ⟨bx, 1, none⟩ = some (.slice s.tt.A s.tt.n s.tt.c) by rw [cell_of_row _ _ 1 _ _ _ hX]; rfl)
    have x2 := up_fact (show w3.cell? ⟨bx, 2, none⟩ = some (.slice s.li.A s.li.n s.li.c) by rw [cell_of_row _ _ 2 _ _ _ hX]; rfl)
    have x3 := up_fact (show w3.cell? ⟨bx, 3, none⟩ = some (.slice s.ba.A s.ba.n s.ba.c) by rw [cell_of_row _ _ 3 _ _ _ hX]; rfl)
    have x4 := up_fact (show w3.cell? ⟨bx, 4, none⟩ = some (.slice s.inn.A s.inn.n s.inn.c) by rw [cell_of_row _ _ 4 _ _ _ hX]; rfl)
    have x5 := up_fact (show w3.cell? ⟨bx, 5, none⟩ = some (.slice s.ah.A s.ah.n s.ah.c) by rw [cell_of_row _ _ 5 _ _ _ hX]; rfl)
    have x6 := up_fact (show w3.cell? ⟨bx, 6, none⟩ = some (.slice s.ne.A s.ne.n s.ne.c) by rw [cell_of_row _ _ 6 _ _ _ hX]; rfl)
    have x7 := up_fact (show w3.cell? ⟨bx, 7, none⟩ = some (.slice s.va.A s.va.n s.va.c) by rw [cell_of_row _ _ 7 _ _ _ hX]; rfl)
    have x8 := up_fact (show w3.cell? ⟨bx, 8, none⟩ = some (.slice s.pr.A s.pr.n s.pr.c) by rw [cell_of_row _ _ 8 _ _ _ hX]; rfl)
    have x9 := up_fact (show w3.cell? ⟨bx, 9, none⟩ = some (.slice s.cu.A s.cu.n s.cu.c) by rw [cell_of_row _ _ 9 _ _ _ hX]; rfl)
    have x10 := up_fact (show w3.cell? ⟨bx, 10, none⟩ = some (.slice s.ma.A s.ma.n s.ma.c) by rw [cell_of_row _ _ 10 _ _ _ hX]; rfl)
    have x11 := up_fact (show w3.cell? ⟨bx, 11, none⟩ = some (.slice s.ho.A s.ho.n s.ho.c) by rw [cell_of_row _ _ 11 _ _ _ hX]; rfl)
    have hC := Below.refl w3.heap.size w3
    clear hX hw3 hbx
    go_wp2_with (first | (go_at_call 28; refine (HAL.out _ hA3).mono ?_; rintro e w4 ⟨b4, rfl, hp4, hb4⟩; have HP4 := Lib.hid hp4; have hA4 := bgo hA3 hb4; have hC4 := bgo hC hb4; clear hp4 hb4; rcases b4 with _ | _) | (go_at_call 29; refine (HSU.out _ hA4).mono ?_; rintro e w5 ⟨b5, rfl, hp5, hb5⟩; have HP5 := Lib.hid hp5; have hA5 := bgo hA4 hb5; clear hp5 hb5; rcases b5 with _ | _))
    · go_ret
      exact ⟨false, rfl, ⟨(fun h => by cases h), fun h => HP4.out (HEX.out h).1⟩, HB1.out.trans (hA4.mono (by omega))⟩
    · go_ret
      exact ⟨false, rfl, ⟨(fun h => by cases h), fun h => (HEX.out h).2.sub HP5.out⟩, HB1.out.trans (hA5.mono (by omega))⟩
    · go_roundw
      case rel => exact ⟨k + 1, by go_num, by omega, hA5, Lib.hid (fun q hq => by
        rw [List.take_add_one, HPK.out, Option.toList_some, List.mem_append, List.mem_singleton] at hq
        rcases hq with hq | rfl
        · exact HPRE.out q hq
        · exact HP5.out)⟩
      case measure => simp [intOf] <;> omega

end Go.Proofs.Ytngdolmmaiogiaa

/- The walk of font.Check. Condition: the font lies as one, its lookups read as plain data. Printed by wip/tools/g32o.py. Printed by wip/tools. -/
namespace Go.Proofs.Ytngdolmmaiogiaa
open Go.RowKit

theorem ExLk.below {w w' : World} {m : Nat} {ls : List PK} {l : Lk} {su : List PSu} (h : ExLk w m ls l su) (hb : Below w.heap.size w w') : ExLk w' m ls l su :=
  ⟨h.1, h.2.1, h.2.2.1, h.2.2.2.1, fun k p hk => by
    obtain ⟨b, o, s, e, hc, h1⟩ := h.2.2.2.2 k p hk
    exact ⟨b, o, s, e, fun j v hj => (hb.cell (World.block_lt_of_cell? w _ (hc j v hj))).trans (hc j v hj), h1⟩⟩
theorem GlZero.below {w w' : World} {F : Fnt} (h : GlZero w F) (hb : Below w.heap.size w w') : GlZero w' F := fun k hk => by
  obtain ⟨b, o, e, h0, h1, h2, h3⟩ := h k hk
  have up : ∀ {p : Addr} {v : Value}, w.cell? p = some v → w'.cell? p = some v := fun h => (hb.cell (World.block_lt_of_cell? w _ h)).trans h
  exact ⟨b, o, e, up h0, up h1, up h2, up h3⟩
/-- the error number of a check, or none -/
def RetE (w : World) (p : Bool → Prop) (e : Ending) (w' : World) : Prop := ∃ b : Bool, e = .returned (.int .i64 (if b then 0 else 12)) ∧ p b ∧ Below w.heap.size w w'
/-- what the check of a lookup tells -/
def FkGood (m : Nat) (ls : List PK) (x : LkS) : Prop := 1 ≤ x.1.ki ∧ x.1.ki ≤ 12 ∧ x.2.length ≤ 64 ∧ ∀ p ∈ x.2, FkSub m ls x.1.ki p true
/-- a font that the check lets be -/
structure ExFont (w : World) (F : Fnt) (ls : List PK) (Ls : List LkS) : Prop where
  em : fkW F.em 1 16384 = true
  gn : fkW (F.gn : Int) 1 4096 = true
  gz : GlZero w F
  mn : F.mn = 0
  sn : F.sn = 0
  fn : F.fn = 0
  ln : F.ln ≤ 64
  lk : ∀ x ∈ Ls, ExLk w F.gn ls x.1 x.2
set_option maxRecDepth 100000 in
set_option maxHeartbeats 4000000 in
theorem kcheck_any (F : Fnt) (B : Nat) (ls : List PK) (Ls : List LkS) (w : World) (h : FntOk w B F) (hLs : SlR w B 4 (LkR2 w B) F.LA F.ln F.lc Ls) (hL : SlR w B 4 (LkR w B) F.LA F.ln F.lc ls) (hB : B ≤ w.heap.size) :
    Calls Try.prog 12 #[.agg #[.int .i64 F.em, .slice F.GA F.gn F.gc, .slice F.MA F.mn F.mc, .slice F.LA F.ln F.lc, .slice F.FA F.fn F.fc, .slice F.SA F.sn F.sc]] w (RetE w (fun b => (b = true → ∀ x ∈ Ls, FkGood F.gn ls x) ∧ (ExFont w F ls Ls → b = true))) := by
  have hll := SlR.length hLs
  have hlc := SlR.cap hLs
  have hgc := h.hG.cap
  have hsc := h.hS.cap
  have hgn : F.gn ≤ 9223372036854775807 := by omega
  have hsn : F.sn ≤ 9223372036854775807 := by omega
  have HF0 := Lib.hid h
  have HLS0 := Lib.hid hLs
  have HL0 := Lib.hid hL
  clear h hLs hL
  obtain ⟨wb1, hw_wb1⟩ : ∃ z, z = w.alloc (.cells #[.int .i64 F.em, .slice F.GA F.gn F.gc, .slice F.MA F.mn F.mc, .slice F.LA F.ln F.lc, .slice F.FA F.fn F.fc, .slice F.SA F.sn F.sc] 28) := ⟨_, rfl⟩
  have hs_wb1 : wb1.heap.size = w.heap.size + 1 := by rw [hw_wb1]; simp
  have hb_wb1 : Below w.heap.size w wb1 := by rw [hw_wb1]; exact (Below.refl _ _).alloc (Nat.le_refl _) _
  have hx_0 : wb1.heap[w.heap.size]? = some (.cells #[.int .i64 F.em, .slice F.GA F.gn F.gc, .slice F.MA F.mn F.mc, .slice F.LA F.ln F.lc, .slice F.FA F.fn F.fc, .slice F.SA F.sn F.sc] 28 (0, 0)) := by rw [hw_wb1]; exact heap_alloc_new _ _
  obtain ⟨w1, hw_w1⟩ : ∃ z, z = wb1.alloc (.cells #[.int .i64 F.em, .slice F.GA F.gn F.gc, .slice F.MA F.mn F.mc, .slice F.LA F.ln F.lc, .slice F.FA F.fn F.fc, .slice F.SA F.sn F.sc] 71) := ⟨_, rfl⟩
  have hs_w1 : w1.heap.size = w.heap.size + 2 := by rw [hw_w1]; simp <;> omega
  have hb_w1 : Below w.heap.size w w1 := by rw [hw_w1]; exact hb_wb1.alloc (by omega) _
  have hx_1 : w1.heap[w.heap.size + 1]? = some (.cells #[.int .i64 F.em, .slice F.GA F.gn F.gc, .slice F.MA F.mn F.mc, .slice F.LA F.ln F.lc, .slice F.FA F.fn F.fc, .slice F.SA F.sn F.sc] 71 (0, 0)) := by rw [hw_w1]; exact (hs_wb1 ▸ heap_alloc_new wb1 _)
  have hx_0 : w1.heap[w.heap.size]? = some (.cells #[.int .i64 F.em, .slice F.GA F.gn F.gc, .slice F.MA F.mn F.mc, .slice F.LA F.ln F.lc, .slice F.FA F.fn F.fc, .slice F.SA F.sn F.sc] 28 (0, 0)) := by rw [hw_w1]; exact (heap_alloc_old _ _ (by omega)).trans hx_0
  have g0 := up_fact (show w1.cell? ⟨w.heap.size, 0, none⟩ = some (.int .i64 F.em) by rw [cell_of_row _ _ 0 _ _ _ hx_0]; rfl)
  have g1 := up_fact (show w1.cell? ⟨w.heap.size, 1, none⟩ = some (.slice F.GA F.gn F.gc) by rw [cell_of_row _ _ 1 _ _ _ hx_0]; rfl)
  have g2 := up_fact (show w1.cell? ⟨w.heap.size, 2, none⟩ = some (.slice F.MA F.mn F.mc) by rw [cell_of_row _ _ 2 _ _ _ hx_0]; rfl)
  have g3 := up_fact (show w1.cell? ⟨w.heap.size, 3, none⟩ = some (.slice F.LA F.ln F.lc) by rw [cell_of_row _ _ 3 _ _ _ hx_0]; rfl)
  have g4 := up_fact (show w1.cell? ⟨w.heap.size, 4, none⟩ = some (.slice F.FA F.fn F.fc) by rw [cell_of_row _ _ 4 _ _ _ hx_0]; rfl)
  have g5 := up_fact (show w1.cell? ⟨w.heap.size, 5, none⟩ = some (.slice F.SA F.sn F.sc) by rw [cell_of_row _ _ 5 _ _ _ hx_0]; rfl)
  have c0 := up_fact (show w1.cell? ⟨w.heap.size + 1, 0, none⟩ = some (.int .i64 F.em) by rw [cell_of_row _ _ 0 _ _ _ hx_1]; rfl)
  have c1 := up_fact (show w1.cell? ⟨w.heap.size + 1, 1, none⟩ = some (.slice F.GA F.gn F.gc) by rw [cell_of_row _ _ 1 _ _ _ hx_1]; rfl)
  have c2 := up_fact (show w1.cell? ⟨w.heap.size + 1, 2, none⟩ = some (.slice F.MA F.mn F.mc) by rw [cell_of_row _ _ 2 _ _ _ hx_1]; rfl)
  have c3 := up_fact (show w1.cell? ⟨w.heap.size + 1, 3, none⟩ = some (.slice F.LA F.ln F.lc) by rw [cell_of_row _ _ 3 _ _ _ hx_1]; rfl)
  have c4 := up_fact (show w1.cell? ⟨w.heap.size + 1, 4, none⟩ = some (.slice F.FA F.fn F.fc) by rw [cell_of_row _ _ 4 _ _ _ hx_1]; rfl)
  have c5 := up_fact (show w1.cell? ⟨w.heap.size + 1, 5, none⟩ = some (.slice F.SA F.sn F.sc) by rw [cell_of_row _ _ 5 _ _ _ hx_1]; rfl)
  have hA0 := Below.refl w1.heap.size w1
  have HS1 := Lib.hid hs_w1
  have hs1 : w.heap.size + 1 < w1.heap.size := by omega
  have HB1 := Lib.hid hb_w1
  have HW_wb1 := Lib.hid hw_wb1
  have HW_w1 := Lib.hid hw_w1
  clear hw_wb1 hs_wb1 hb_wb1 hw_w1 hs_w1 hb_w1
  clear hx_0 hx_1
  have HBW := Lib.hid (HB1.out.mono hB)
  have HLS := Lib.hid (SlR.below HLS0.out HBW.out fun _ _ h => h.below HBW.out)
  have HUP := Lib.hid (show ∀ W, Below w1.heap.size w1 W → Below B w W ∧ B ≤ W.heap.size ∧ Below w.heap.size w W from fun W hW => ⟨HBW.out.trans (hW.mono (by omega)), by have := hW.size; omega, HB1.out.trans (hW.mono (by omega))⟩)
  have HGL := Lib.hid (fun W (hW : Below w1.heap.size w1 W) => kglyphs_any F B W (HF0.out.below (HUP.out W hW).1) (HUP.out W hW).2.1)
  have HMA := Lib.hid (fun W (hW : Below w1.heap.size w1 W) => kmaps_any F B W hgn (HF0.out.below (HUP.out W hW).1) (HUP.out W hW).2.1)
  have HFE := Lib.hid (fun W (hW : Below w1.heap.size w1 W) => kfeats_any F B W (HF0.out.below (HUP.out W hW).1) (HUP.out W hW).2.1)
  have HXG := Lib.hid (fun (hx : ExFont w F ls Ls) W (hW : Below w1.heap.size w1 W) => hx.gz.below (HUP.out W hW).2.2)
  go_enter Try.func12, Try.ntmps12
  go_upto_region 2 with fail
  rw [← HW_wb1.out]
  rw [← HW_w1.out]
  go_cut [21] (fun v W => ∃ t : Bool, v = .bool t ∧ Below w1.heap.size w1 W ∧ Hid ((t = true → ¬ ExFont w F ls Ls) ∧ (t = false → F.ln ≤ 64)))
  case first =>
    by_cases h64 : F.ln ≤ 64
    · have u1 : decide ((64 : Int) < (F.ln : Int)) = false := by simp; omega
      have u2 : decide (64 < F.ln) = false := by simp; omega
      have H64 := Lib.hid h64
      clear h64
      go_wp2_with (first | (go_at_call 17; refine (HGL.out _ hA0).mono ?_; rintro e w4 ⟨b4, rfl, hp4, hb4⟩; have HP4 := Lib.hid hp4; have hA4 := bgo hA0 hb4; clear hp4 hb4; rcases b4 with _ | _) | (go_at_call 18; refine (HMA.out _ hA4).mono ?_; rintro e w5 ⟨b5, rfl, hp5, hb5⟩; have HP5 := Lib.hid hp5; have hA5 := bgo hA4 hb5; clear hp5 hb5; rcases b5 with _ | _))
      · go_meet
        exact ⟨true, rfl, hA4, Lib.hid ⟨(fun _ hx => by cases HP4.out hx.em hx.gn (HXG.out hx _ hA0)), fun h => by cases h⟩⟩
      · go_meet
        exact ⟨true, rfl, hA5, Lib.hid ⟨(fun _ hx => by cases HP5.out hx.mn hx.sn), fun h => by cases h⟩⟩
      · go_meet
        exact ⟨false, rfl, hA5, Lib.hid ⟨(fun h => by cases h), fun _ => H64.out⟩⟩
    · have u1 : decide ((64 : Int) < (F.ln : Int)) = true := by simp; omega
      have u2 : decide (64 < F.ln) = true := by simp; omega
      have HN := Lib.hid (show ¬ ExFont w F ls Ls from fun hx => h64 hx.ln)
      clear h64
      go_wp2_with (first | (go_at_call 17; refine (HGL.out _ hA0).mono ?_; rintro e w4 ⟨b4, rfl, hp4, hb4⟩; have HP4 := Lib.hid hp4; have hA4 := bgo hA0 hb4; clear hp4 hb4; rcases b4 with _ | _) | (go_at_call 18; refine (HMA.out _ hA4).mono ?_; rintro e w5 ⟨b5, rfl, hp5, hb5⟩; have HP5 := Lib.hid hp5; have hA5 := bgo hA4 hb5; clear hp5 hb5; rcases b5 with _ | _))
      · go_meet
        exact ⟨true, rfl, hA4, Lib.hid ⟨(fun _ => HN.out), fun h => by cases h⟩⟩
      · go_meet
        exact ⟨true, rfl, hA5, Lib.hid ⟨(fun _ => HN.out), fun h => by cases h⟩⟩
      · go_meet
        exact ⟨true, rfl, hA5, Lib.hid ⟨(fun _ => HN.out), fun h => by cases h⟩⟩
  obtain ⟨t, rfl, hA2, HT⟩ := hcut
  rcases t with _ | _
  rotate_left
  · go_wp2_with fail
    go_ret
    exact ⟨false, rfl, ⟨(fun h => by cases h), fun h => absurd h (HT.out.1 (by trivial))⟩, HB1.out.trans (hA2.mono (by omega))⟩
  have h64 := HT.out.2 (by trivial)
  clear HT
  go_upto_region 5 with fail
  obtain ⟨wo, hwo⟩ : ∃ wo : World, wo = wc := ⟨_, rfl⟩
  subst hwo
  go_loopw [25] (fun v wr => ∃ k : Nat, v = .int .i64 (k : Int) ∧ k ≤ F.ln ∧ Below w1.heap.size w1 wr ∧ Hid (∀ x ∈ Ls.take k, FkGood F.gn ls x)) (fun v _ => F.ln - (intOf v).toNat)
  case atStart => exact ⟨0, rfl, Nat.zero_le _, hA2, Lib.hid (fun p hp => by simp at hp)⟩
  case round =>
    obtain ⟨k, rfl, hk, hA, HPRE⟩ := hrel
    by_cases hin : k < F.ln
    rotate_left
    · have r1 : decide ((k : Int) < (F.ln : Int)) = false := by simp; omega
      have r2 : decide (k < F.ln) = false := by simp; omega
      have HALL := Lib.hid (show ∀ x ∈ Ls, FkGood F.gn ls x by have h0 := HPRE.out; rwa [List.take_of_length_le (by omega)] at h0)
      clear hin
      go_wp2_with (first | (go_at_call 20; refine (HFE.out _ hA).mono ?_; rintro e w4 ⟨b4, rfl, hp4, hb4⟩; have HP4 := Lib.hid hp4; have hA4 := bgo hA hb4; clear hp4 hb4; rcases b4 with _ | _))
      · go_ret
        exact ⟨false, rfl, ⟨(fun h => by cases h), fun h => absurd (HP4.out h.fn) (by trivial)⟩, HB1.out.trans (hA4.mono (by omega))⟩
      · go_ret
        exact ⟨true, rfl, ⟨(fun _ => HALL.out), fun _ => rfl⟩, HB1.out.trans (hA4.mono (by omega))⟩
    have r1 : decide ((k : Int) < (F.ln : Int)) = true := by simp; omega
    have r2 : decide (k < F.ln) = true := by simp; omega
    have sk : IntKind.i64.wrap ((k : Int) + 1) = (k : Int) + 1 := by rw [IntKind.wrap_i64]; omega
    obtain ⟨⟨l, su⟩, b, o, cs, hp, eA, hbb, hc, rfl, hks⟩ := SlR.at_ HLS.out hin
    have y0 := (hA.cell (p := ⟨b, o + k * 4 + 0, none⟩) (by show b < _; omega)).trans (hc 0 _ rfl)
    have y1 := (hA.cell (p := ⟨b, o + k * 4 + 1, none⟩) (by show b < _; omega)).trans (hc 1 _ rfl)
    have y2 := (hA.cell (p := ⟨b, o + k * 4 + 2, none⟩) (by show b < _; omega)).trans (hc 2 _ rfl)
    have y3 := (hA.cell (p := ⟨b, o + k * 4 + 3, none⟩) (by show b < _; omega)).trans (hc 3 _ rfl)
    rw [Nat.add_zero] at y0
    have HPK := Lib.hid hp
    have HMEM := Lib.hid (List.mem_of_getElem? hp)
    have HKS := Lib.hid hks
    have HEA := Lib.hid eA
    have HLO := Lib.hid (fun W (hW : Below w1.heap.size w1 W) => klookup_any F B l su ls W hgn hsn (KsR.below HKS.out (hW.mono (by omega))) (SlR.below HL0.out (HUP.out W hW).1 fun _ _ h => LkR.below h (HUP.out W hW).1) (HUP.out W hW).2.1)
    have HXL := Lib.hid (fun (hx : ExFont w F ls Ls) W (hW : Below w1.heap.size w1 W) => (hx.lk _ HMEM.out).below (HUP.out W hW).2.2)
    clear hc hp hks eA
    rw [HEA.out]
    go_upto_region 7 with fail
    obtain ⟨w3, hw3⟩ : ∃ z, z = wr.alloc (.cells #[.int .i64 l.ki, .int .i64 l.fl, .int .i64 l.se, .slice l.su.A l.su.n l.su.c] 36) := ⟨_, rfl⟩
    obtain ⟨bx, hbx⟩ : ∃ z, z = wr.heap.size := ⟨_, rfl⟩
    rw [← hw3, ← hbx]
    have hA3 := (show Below w1.heap.size w1 w3 by rw [hw3]; exact hA.alloc hA.size _)
    have hX : w3.heap[bx]? = some (.cells #[.int .i64 l.ki, .int .i64 l.fl, .int .i64 l.se, .slice l.su.A l.su.n l.su.c] 36 (0, 0)) := by rw [hw3, hbx]; exact heap_alloc_new _ _
    have x0 := up_fact (show w3.cell? ⟨bx, 0, none⟩ = some (.int .i64 l.ki) by rw [cell_of_row _ _ 0 _ _ _ hX]; rfl)
    have x1 := up_fact (show w3.cell? ⟨bx, 1, none⟩ = some (.int .i64 l.fl) by rw [cell_of_row _ _ 1 _ _ _ hX]; rfl)
    have x2 := up_fact (show w3.cell? ⟨bx, 2, none⟩ = some (.int .i64 l.se) by rw [cell_of_row _ _ 2 _ _ _ hX]; rfl)
    have x3 := up_fact (show w3.cell? ⟨bx, 3, none⟩ = some (.slice l.su.A l.su.n l.su.c) by rw [cell_of_row _ _ 3 _ _ _ hX]; rfl)
    have hC := Below.refl w3.heap.size w3
    clear hX hw3 hbx
    go_wp2_with (first | (go_at_call 19; refine (HLO.out _ hA3).mono ?_; rintro e w4 ⟨b4, rfl, hp4, hb4⟩; have HP4 := Lib.hid hp4; have hA4 := bgo hA3 hb4; clear hp4 hb4; rcases b4 with _ | _))
    · go_ret
      exact ⟨false, rfl, ⟨(fun h => by cases h), fun h => absurd (HP4.out.2 (HXL.out h _ hA3)) (by trivial)⟩, HB1.out.trans (hA4.mono (by omega))⟩
    · go_roundw
      case rel => exact ⟨k + 1, by go_num, by omega, hA4, Lib.hid (fun q hq => by
        rw [List.take_add_one, HPK.out, Option.toList_some, List.mem_append, List.mem_singleton] at hq
        rcases hq with hq | rfl
        · exact HPRE.out q hq
        · exact HP4.out.1 (by trivial))⟩
      case measure => simp [intOf] <;> omega

end Go.Proofs.Ytngdolmmaiogiaa

/- What a checked lookup gives: bounds, and glyphs of the font. Plainly. No condition. -/
namespace Go.Proofs.Ytngdolmmaiogiaa
open Go.RowKit

theorem fkT_iff {m : Nat} {z : Int} : fkT m z = true ↔ 0 ≤ z ∧ z < (m : Int) := by
  unfold fkT
  rw [fkW_iff]
  omega
theorem fkT_all {m : Nat} {t : List Int} (h : t.all (fkT m) = true) : ∀ z ∈ t, 0 ≤ z ∧ z < (m : Int) := fun z hz => fkT_iff.1 (List.all_eq_true.1 h z hz)
theorem FkGood.good {m : Nat} {ls : List PK} {x : LkS} (h : FkGood m ls x) : LkGood x.1 x.2 := by
  obtain ⟨_, _, h3, h4⟩ := h
  refine ⟨⟨?_, fun j hj => ?_⟩, fun hk s hs => ?_, fun hk s hs => ?_, fun hk s hs r hr => ?_⟩
  · show (psOf x.2).length ≤ 64
    unfold psOf; rw [List.length_map]; exact h3
  · obtain ⟨s, hs, he⟩ := psOf_getD hj
    show SubP x.1.ki ((psOf x.2).getD j nS).1 ((psOf x.2).getD j nS).2 true
    rw [he]
    have hm := h4 s (List.mem_of_getElem? hs)
    intro _
    refine ⟨fun hk => ?_, fun hk => ?_⟩
    · obtain ⟨h5, h6, h7⟩ := hm.one rfl (.inl hk)
      refine ⟨h6.symm, h5, fun i hi => ?_⟩
      have hi' : i < s.tt.length := hi
      have := h7 s.tt[i] (List.getElem_mem hi')
      rw [List.getD_eq_getElem?_getD, List.getElem?_eq_getElem hi']
      exact this.2.2 (by omega)
    · obtain ⟨h5, h6, h7⟩ := hm.one rfl (.inr hk)
      refine ⟨h6.symm, h5, fun i hi => ?_⟩
      have hi' : i < s.tt.length := hi
      have := h7 s.tt[i] (List.getElem_mem hi')
      rw [List.getD_eq_getElem?_getD, List.getElem?_eq_getElem hi']
      exact this.2.1 hk
  · have := (h4 s hs).ctx rfl hk
    omega
  · have := (h4 s hs).rev rfl hk
    exact ⟨trivial, by omega, by omega⟩
  · have h5 := (h4 s hs).lig rfl hk r hr
    refine ⟨by omega, fun p hp => ?_⟩
    have := (fkW_iff.1 (h5.2 p hp).1).2
    omega
theorem FkGood.ids {m : Nat} {ls : List PK} {x : LkS} (h : FkGood m ls x) : LkIds m x.1 x.2 := by
  obtain ⟨_, _, _, h4⟩ := h
  refine ⟨fun hk s hs t ht => ?_, fun hk s hs r hr p hp => ?_⟩
  · rcases hk with hk | hk | hk
    · exact fkT_all (((h4 s hs).one rfl (.inl hk)).2.2 t ht).1
    · exact fkT_all (((h4 s hs).one rfl (.inr hk)).2.2 t ht).1
    · exact fkT_all (((h4 s hs).rev rfl hk).1.2 t ht).1
  · have h5 := ((h4 s hs).lig rfl hk r hr).2 p hp
    exact fkT_all h5.2.2 p.2 (by simp)

end Go.Proofs.Ytngdolmmaiogiaa

/- What All keeps under a checked font, plainly. No condition. -/
namespace Go.Proofs.Ytngdolmmaiogiaa
open Go.RowKit

structure Kept (m : Nat) (gs out : List Gl) (plain : Prop) : Prop where
  len : out.length ≤ 16384
  one : plain → out.length = gs.length
  ids : ∀ g ∈ out, 0 ≤ g.id ∧ g.id < (m : Int)
  cls : ∀ g ∈ out, ∃ y ∈ gs, y.cl = g.cl
  ris : Ris gs → Ris out
theorem kept_all {P : PFt} {ls : List PK} {Ls : List LkS} {m : Nat} (xs : List (Int × Int)) (gs : List Gl) (L : Nat) (hg : ∀ x ∈ Ls, FkGood m ls x) (hi : ∀ g ∈ gs, 0 ≤ g.id ∧ g.id < (m : Int)) (hn : gs.length ≤ 16384) : Kept m gs (allB P Ls xs gs L).1 (∀ x ∈ Ls, x.1.ki ≠ 2 ∧ x.1.ki ≠ 3) := by
  have h0 : Kp m (fun c => ∃ y ∈ gs, y.cl = c) (Ris gs) gs := ⟨fun g h => ⟨hi g h, g, h, rfl⟩, fun h => h⟩
  have h1 : Kp m (fun c => ∃ y ∈ gs, y.cl = c) (Ris gs) (allB P Ls xs gs L).1 := allB_keep (I := Kp m (fun c => ∃ y ∈ gs, y.cl = c) (Ris gs)) (fun x hx gs' p r h hs => sngB_kp (hg x hx).ids h hs) xs gs L h0
  refine ⟨(allB_ok xs gs L hn).1, fun hp => ?_, fun g h => (h1.1 g h).1, fun g h => (h1.1 g h).2, h1.2⟩
  exact allB_keep (I := fun z => z.length = gs.length) (fun x hx gs' p r h hs => (sngB_one (hg x hx).good.one (hp x hx).1 (hp x hx).2 hs).trans h) xs gs L rfl

end Go.Proofs.Ytngdolmmaiogiaa

/- The example of the laws on substitution, plainly: what the machine makes of it. No condition. -/
namespace Go.Proofs.Ytngdolmmaiogiaa
open Go.RowKit

def exSu0 : PSu := ⟨[1], [[2]], [], [], [], [], []⟩
def exSu1 : PSu := ⟨[1], [[]], [], [], [], [], []⟩
def exSu2 : PSu := ⟨[], [], [], [], [[3]], [], [(0, 2)]⟩
def exL0 (s : Nat) : Lk := ⟨1, 0, 0, ⟨some ⟨s + 1 + 1 + 1 + 1, 0, none⟩, 1, 1⟩⟩
def exL1 (s : Nat) : Lk := ⟨2, 0, 0, ⟨some ⟨s + 1 + 1 + 1 + 1 + 1 + 1 + 1, 0, none⟩, 1, 1⟩⟩
def exL2 (s : Nat) : Lk := ⟨4, 0, 0, ⟨some ⟨s + 1 + 1 + 1 + 1 + 1 + 1 + 1 + 1 + 1 + 1 + 1, 0, none⟩, 1, 1⟩⟩
def exLs (s : Nat) : List LkS := [(exL0 s, [exSu0]), (exL1 s, [exSu1]), (exL2 s, [exSu2])]
def exLk : List PK := [⟨1, 0, 0, [exSu0]⟩, ⟨2, 0, 0, [exSu1]⟩, ⟨4, 0, 0, [exSu2]⟩]
def exPf : PFt := ⟨List.replicate 5 (0, 0), [], exLk⟩
def exGl (id cl ma : Int) : Gl := ⟨id, cl, 0, 0, 0, -1, -1, 0, 0, ma⟩
theorem exO0 (s : Nat) : onceB exPf (exLs s) 9 65536 [exGl 1 0 1, exGl 1 1 2] 0 (((0 : Nat)) : Int) = (some ([exGl 2 0 1, exGl 1 1 2], 1), 65535) := by kernel_rfl
theorem exO1 (s : Nat) : onceB exPf (exLs s) 9 65536 [exGl 1 0 1, exGl 3 1 1] 1 (((0 : Nat)) : Int) = (some ([exGl 3 0 1], 0), 65535) := by kernel_rfl
theorem exO2 (s : Nat) : onceB exPf (exLs s) 9 65535 [exGl 3 0 1] 1 (((0 : Nat)) : Int) = (none, 65535) := by kernel_rfl
theorem exO3 (s : Nat) : onceB exPf (exLs s) 9 65536 [exGl 3 1 1] 2 (((0 : Nat)) : Int) = (some ([exGl 3 1 1], 1), 65527) := by kernel_rfl
theorem exH11 {a b : Int} : hitB (exGl a b 1) 1 = true := by kernel_rfl
theorem exH21 {a b : Int} : hitB (exGl a b 2) 1 = false := by kernel_rfl
theorem exAll (s : Nat) : (allB exPf (exLs s) [(0, 1)] [exGl 1 0 1, exGl 1 1 2] 65536).1 = [exGl 2 0 1, exGl 1 1 2] := by
  show (lookB exPf (exLs s) [exGl 1 0 1, exGl 1 1 2] 65536 (0, 1)).1 = _
  have e : lookB exPf (exLs s) [exGl 1 0 1, exGl 1 1 2] 65536 (0, 1) = fwdB exPf (exLs s) (0, 1) 0 [exGl 1 0 1, exGl 1 1 2] 65536 := by rfl
  rw [e, fwdB_some (g := exGl 1 0 1) (x := (0, 1)) rfl exH11 (exO0 s)]
  show (fwdB exPf (exLs s) (0, 1) 1 [exGl 2 0 1, exGl 1 1 2] 65535).1 = _
  rw [fwdB_miss (g := exGl 1 1 2) (x := (0, 1)) rfl exH21, fwdB_end (by decide)]
theorem exLook (s : Nat) : (lookB exPf (exLs s) [exGl 1 0 1, exGl 3 1 1] 65536 (1, 1)).1 = [exGl 3 0 1] := by
  have e : lookB exPf (exLs s) [exGl 1 0 1, exGl 3 1 1] 65536 (1, 1) = fwdB exPf (exLs s) (1, 1) 0 [exGl 1 0 1, exGl 3 1 1] 65536 := by rfl
  rw [e, fwdB_some (g := exGl 1 0 1) (x := (1, 1)) rfl exH11 (exO1 s)]
  show (fwdB exPf (exLs s) (1, 1) 0 [exGl 3 0 1] 65535).1 = _
  rw [fwdB_none (g := exGl 3 0 1) (x := (1, 1)) rfl exH11 (exO2 s), fwdB_end (by decide)]
theorem exDone (s : Nat) : (allB exPf (exLs s) [(2, 1)] [exGl 3 1 1] 65536).2 = 65527 := by
  show (lookB exPf (exLs s) [exGl 3 1 1] 65536 (2, 1)).2 = _
  have e : lookB exPf (exLs s) [exGl 3 1 1] 65536 (2, 1) = fwdB exPf (exLs s) (2, 1) 0 [exGl 3 1 1] 65536 := by rfl
  rw [e, fwdB_some (g := exGl 3 1 1) (x := (2, 1)) rfl exH11 (exO3 s)]
  show (fwdB exPf (exLs s) (2, 1) 1 [exGl 3 1 1] 65527).2 = _
  rw [fwdB_end (by decide)]
theorem exP0 : ExP 5 exLk 1 exSu0 := .inl ⟨.inl rfl, by decide, by decide, rfl, fun t ht => by
  obtain rfl : t = [2] := by simpa [exSu0] using ht
  exact ⟨by decide, fun h => absurd h (by decide), fun _ => rfl⟩⟩
theorem exP1 : ExP 5 exLk 2 exSu1 := .inl ⟨.inr rfl, by decide, by decide, rfl, fun t ht => by
  obtain rfl : t = [] := by simpa [exSu1] using ht
  exact ⟨by decide, fun _ => by decide, fun h => absurd rfl h⟩⟩
theorem exP2 : ExP 5 exLk 4 exSu2 := .inr ⟨rfl, by decide, fun zs hz => by
  obtain rfl : zs = [3] := by simpa [exSu2] using hz
  exact ⟨by decide, by decide⟩, rfl, rfl, by
  refine ⟨by decide, fun x hx => ?_⟩
  obtain rfl : x = (0, 2) := by simpa [exSu2] using hx
  unfold FkNest
  decide⟩
theorem exGood (s : Nat) : ∀ x ∈ exLs s, FkGood 5 exLk x := fun x hx => by
  have h : x = (exL0 s, [exSu0]) ∨ x = (exL1 s, [exSu1]) ∨ x = (exL2 s, [exSu2]) := by simpa [exLs] using hx
  rcases h with rfl | rfl | rfl
  · refine ⟨(by decide : (1 : Int) ≤ 1), (by decide : (1 : Int) ≤ 12), (by decide : 1 ≤ 64), fun p hp => ?_⟩
    obtain rfl : p = exSu0 := by simpa using hp
    rcases exP0 with ⟨_, h1, h2, h3⟩ | ⟨h, _⟩
    · exact FkSub.of1 (.inl rfl) (fun _ => ⟨by decide, h3⟩) fun _ _ _ => rfl
    · cases h
  · refine ⟨(by decide : (1 : Int) ≤ 2), (by decide : (2 : Int) ≤ 12), (by decide : 1 ≤ 64), fun p hp => ?_⟩
    obtain rfl : p = exSu1 := by simpa using hp
    rcases exP1 with ⟨_, h1, h2, h3⟩ | ⟨h, _⟩
    · exact FkSub.of1 (.inr rfl) (fun _ => ⟨by decide, h3⟩) fun _ _ _ => rfl
    · cases h
  · refine ⟨(by decide : (1 : Int) ≤ 4), (by decide : (4 : Int) ≤ 12), (by decide : 1 ≤ 64), fun p hp => ?_⟩
    obtain rfl : p = exSu2 := by simpa using hp
    exact FkSub.of4 rfl (fun _ => by decide) fun _ _ _ _ _ => rfl

end Go.Proofs.Ytngdolmmaiogiaa
