/- Joined: FkD FkE FkJ. -/
import Derived.Test.YtngdolmmaiogiaaJ25

/- The walk of nests of the check. Condition: the subtable and the lookups read as plain data. Printed by wip/tools/g32d.py. Printed by wip/tools. -/
namespace Go.Proofs.Ytngdolmmaiogiaa
open Go.RowKit

/-- a nest that may be -/
def FkNest (ls : List PK) (kind : Int) (m : Nat) (x : Int × Int) : Prop := fkW x.1 0 ((m : Int) - 1) = true ∧ fkW x.2 0 ((ls.length : Int) - 1) = true ∧ fkS ((ls[x.2.toNat]?.map PK.ki).getD 0) = fkS kind
def FkNests (ls : List PK) (kind : Int) (m : Nat) (ne : List (Int × Int)) : Prop := ne.length ≤ 16 ∧ ∀ x ∈ ne, FkNest ls kind m x
set_option maxRecDepth 100000 in
set_option maxHeartbeats 4000000 in
theorem knests_any (F : Fnt) (B : Nat) (kind : Int) (s : Sb) (p : PSu) (ls : List PK) (w : World) (h : SubOk w B s p) (hL : SlR w B 4 (LkR w B) F.LA F.ln F.lc ls) (hB : B ≤ w.heap.size) :
    Calls Try.prog 35 #[.agg #[.int .i64 F.em, .slice F.GA F.gn F.gc, .slice F.MA F.mn F.mc, .slice F.LA F.ln F.lc, .slice F.FA F.fn F.fc, .slice F.SA F.sn F.sc], .int .i64 kind, .agg #[.slice s.co.A s.co.n s.co.c, .slice s.tt.A s.tt.n s.tt.c, .slice s.li.A s.li.n s.li.c, .slice s.ba.A s.ba.n s.ba.c, .slice s.inn.A s.inn.n s.inn.c, .slice s.ah.A s.ah.n s.ah.c, .slice s.ne.A s.ne.n s.ne.c, .slice s.va.A s.va.n s.va.c, .slice s.pr.A s.pr.n s.pr.c, .slice s.cu.A s.cu.n s.cu.c, .slice s.ma.A s.ma.n s.ma.c, .slice s.ho.A s.ho.n s.ho.c]] w (RetB w (fun b => FkNests ls kind p.inn.length p.ne → b = true)) := by
  have hcap := SlR.cap h.ne
  have hlen := SlR.length h.ne
  have hcl := h.inn.1
  have hcc := h.inn.cap
  have hll := SlR.length hL
  have hlc := SlR.cap hL
  have HS0 := Lib.hid h
  have HL0 := Lib.hid hL
  clear h hL
  obtain ⟨wb1, hw_wb1⟩ : ∃ z, z = w.alloc (.cells #[.int .i64 F.em, .slice F.GA F.gn F.gc, .slice F.MA F.mn F.mc, .slice F.LA F.ln F.lc, .slice F.FA F.fn F.fc, .slice F.SA F.sn F.sc] 71) := ⟨_, rfl⟩
  have hs_wb1 : wb1.heap.size = w.heap.size + 1 := by rw [hw_wb1]; simp
  have hb_wb1 : Below w.heap.size w wb1 := by rw [hw_wb1]; exact (Below.refl _ _).alloc (Nat.le_refl _) _
  have hx_0 : wb1.heap[w.heap.size]? = some (.cells #[.int .i64 F.em, .slice F.GA F.gn F.gc, .slice F.MA F.mn F.mc, .slice F.LA F.ln F.lc, .slice F.FA F.fn F.fc, .slice F.SA F.sn F.sc] 71 (0, 0)) := by rw [hw_wb1]; exact heap_alloc_new _ _
  obtain ⟨w1, hw_w1⟩ : ∃ z, z = wb1.alloc (.cells #[.slice s.co.A s.co.n s.co.c, .slice s.tt.A s.tt.n s.tt.c, .slice s.li.A s.li.n s.li.c, .slice s.ba.A s.ba.n s.ba.c, .slice s.inn.A s.inn.n s.inn.c, .slice s.ah.A s.ah.n s.ah.c, .slice s.ne.A s.ne.n s.ne.c, .slice s.va.A s.va.n s.va.c, .slice s.pr.A s.pr.n s.pr.c, .slice s.cu.A s.cu.n s.cu.c, .slice s.ma.A s.ma.n s.ma.c, .slice s.ho.A s.ho.n s.ho.c] 60) := ⟨_, rfl⟩
  have hs_w1 : w1.heap.size = w.heap.size + 2 := by rw [hw_w1]; simp <;> omega
  have hb_w1 : Below w.heap.size w w1 := by rw [hw_w1]; exact hb_wb1.alloc (by omega) _
  have hx_1 : w1.heap[w.heap.size + 1]? = some (.cells #[.slice s.co.A s.co.n s.co.c, .slice s.tt.A s.tt.n s.tt.c, .slice s.li.A s.li.n s.li.c, .slice s.ba.A s.ba.n s.ba.c, .slice s.inn.A s.inn.n s.inn.c, .slice s.ah.A s.ah.n s.ah.c, .slice s.ne.A s.ne.n s.ne.c, .slice s.va.A s.va.n s.va.c, .slice s.pr.A s.pr.n s.pr.c, .slice s.cu.A s.cu.n s.cu.c, .slice s.ma.A s.ma.n s.ma.c, .slice s.ho.A s.ho.n s.ho.c] 60 (0, 0)) := by rw [hw_w1]; exact (hs_wb1 ▸ heap_alloc_new wb1 _)
  have hx_0 : w1.heap[w.heap.size]? = some (.cells #[.int .i64 F.em, .slice F.GA F.gn F.gc, .slice F.MA F.mn F.mc, .slice F.LA F.ln F.lc, .slice F.FA F.fn F.fc, .slice F.SA F.sn F.sc] 71 (0, 0)) := by rw [hw_w1]; exact (heap_alloc_old _ _ (by omega)).trans hx_0
  have g0 := up_fact (show w1.cell? ⟨w.heap.size, 0, none⟩ = some (.int .i64 F.em) by rw [cell_of_row _ _ 0 _ _ _ hx_0]; rfl)
  have g1 := up_fact (show w1.cell? ⟨w.heap.size, 1, none⟩ = some (.slice F.GA F.gn F.gc) by rw [cell_of_row _ _ 1 _ _ _ hx_0]; rfl)
  have g2 := up_fact (show w1.cell? ⟨w.heap.size, 2, none⟩ = some (.slice F.MA F.mn F.mc) by rw [cell_of_row _ _ 2 _ _ _ hx_0]; rfl)
  have g3 := up_fact (show w1.cell? ⟨w.heap.size, 3, none⟩ = some (.slice F.LA F.ln F.lc) by rw [cell_of_row _ _ 3 _ _ _ hx_0]; rfl)
  have g4 := up_fact (show w1.cell? ⟨w.heap.size, 4, none⟩ = some (.slice F.FA F.fn F.fc) by rw [cell_of_row _ _ 4 _ _ _ hx_0]; rfl)
  have g5 := up_fact (show w1.cell? ⟨w.heap.size, 5, none⟩ = some (.slice F.SA F.sn F.sc) by rw [cell_of_row _ _ 5 _ _ _ hx_0]; rfl)
  have s0 := up_fact (show w1.cell? ⟨w.heap.size + 1, 0, none⟩ = some (.slice s.co.A s.co.n s.co.c) by rw [cell_of_row _ _ 0 _ _ _ hx_1]; rfl)
  have s1 := up_fact (show w1.cell? ⟨w.heap.size + 1, 1, none⟩ = some (.slice s.tt.A s.tt.n s.tt.c) by rw [cell_of_row _ _ 1 _ _ _ hx_1]; rfl)
  have s2 := up_fact (show w1.cell? ⟨w.heap.size + 1, 2, none⟩ = some (.slice s.li.A s.li.n s.li.c) by rw [cell_of_row _ _ 2 _ _ _ hx_1]; rfl)
  have s3 := up_fact (show w1.cell? ⟨w.heap.size + 1, 3, none⟩ = some (.slice s.ba.A s.ba.n s.ba.c) by rw [cell_of_row _ _ 3 _ _ _ hx_1]; rfl)
  have s4 := up_fact (show w1.cell? ⟨w.heap.size + 1, 4, none⟩ = some (.slice s.inn.A s.inn.n s.inn.c) by rw [cell_of_row _ _ 4 _ _ _ hx_1]; rfl)
  have s5 := up_fact (show w1.cell? ⟨w.heap.size + 1, 5, none⟩ = some (.slice s.ah.A s.ah.n s.ah.c) by rw [cell_of_row _ _ 5 _ _ _ hx_1]; rfl)
  have s6 := up_fact (show w1.cell? ⟨w.heap.size + 1, 6, none⟩ = some (.slice s.ne.A s.ne.n s.ne.c) by rw [cell_of_row _ _ 6 _ _ _ hx_1]; rfl)
  have s7 := up_fact (show w1.cell? ⟨w.heap.size + 1, 7, none⟩ = some (.slice s.va.A s.va.n s.va.c) by rw [cell_of_row _ _ 7 _ _ _ hx_1]; rfl)
  have s8 := up_fact (show w1.cell? ⟨w.heap.size + 1, 8, none⟩ = some (.slice s.pr.A s.pr.n s.pr.c) by rw [cell_of_row _ _ 8 _ _ _ hx_1]; rfl)
  have s9 := up_fact (show w1.cell? ⟨w.heap.size + 1, 9, none⟩ = some (.slice s.cu.A s.cu.n s.cu.c) by rw [cell_of_row _ _ 9 _ _ _ hx_1]; rfl)
  have s10 := up_fact (show w1.cell? ⟨w.heap.size + 1, 10, none⟩ = some (.slice s.ma.A s.ma.n s.ma.c) by rw [cell_of_row _ _ 10 _ _ _ hx_1]; rfl)
  have s11 := up_fact (show w1.cell? ⟨w.heap.size + 1, 11, none⟩ = some (.slice s.ho.A s.ho.n s.ho.c) by rw [cell_of_row _ _ 11 _ _ _ hx_1]; rfl)
  have hA0 := Below.refl w1.heap.size w1
  have HS1 := Lib.hid hs_w1
  have hs1 : w.heap.size + 1 < w1.heap.size := by omega
  have HB1 := Lib.hid hb_w1
  have HW_wb1 := Lib.hid hw_wb1
  have HW_w1 := Lib.hid hw_w1
  clear hw_wb1 hs_wb1 hb_wb1 hw_w1 hs_w1 hb_w1
  clear hx_0 hx_1
  have HN := Lib.hid (SlR.below HS0.out.ne (HB1.out.mono hB) fun _ _ h => h)
  have HL := Lib.hid (SlR.below HL0.out (HB1.out.mono hB) fun _ _ h => LkR.below h (HB1.out.mono hB))
  have si : IntKind.i64.wrap ((s.inn.n : Int) - 1) = (s.inn.n : Int) - 1 := by rw [IntKind.wrap_i64]; omega
  have sl : IntKind.i64.wrap ((F.ln : Int) - 1) = (F.ln : Int) - 1 := by rw [IntKind.wrap_i64]; omega
  clear s0 s1 s2 s3 s5 s7 s8 s9 s10 s11
  by_cases h16 : s.ne.n ≤ 16
  rotate_left
  · have e1 : decide ((16 : Int) < (s.ne.n : Int)) = true := by simp; omega
    have e2 : decide (16 < s.ne.n) = true := by simp; omega
    go_enter Try.func35, Try.ntmps35
    go_upto_region 1 with fail
    rw [← HW_wb1.out]
    rw [← HW_w1.out]
    go_wp2_with fail
    go_ret
    exact ⟨false, rfl, (fun h => by have := h.1; omega), HB1.out⟩
  have e1 : decide ((16 : Int) < (s.ne.n : Int)) = false := by simp; omega
  have e2 : decide (16 < s.ne.n) = false := by simp; omega
  go_enter Try.func35, Try.ntmps35
  go_upto_region 1 with fail
  rw [← HW_wb1.out]
  rw [← HW_w1.out]
  go_upto_region 4 with fail
  go_loopw [16] (fun v wr => ∃ k : Nat, v = .int .i64 (k : Int) ∧ k ≤ s.ne.n ∧ Below w1.heap.size w1 wr) (fun v _ => s.ne.n - (intOf v).toNat)
  case atStart => exact ⟨0, rfl, Nat.zero_le _, hA0⟩
  case round =>
    obtain ⟨k, rfl, hk, hA⟩ := hrel
    by_cases hin : k < s.ne.n
    rotate_left
    · have q1 : decide ((k : Int) < (s.ne.n : Int)) = false := by simp; omega
      have q2 : decide (k < s.ne.n) = false := by simp; omega
      clear hin
      go_wp2_with fail
      go_ret
      exact ⟨true, rfl, (fun _ => rfl), HB1.out.trans (hA.mono (by omega))⟩
    · have q1 : decide ((k : Int) < (s.ne.n : Int)) = true := by simp; omega
      have q2 : decide (k < s.ne.n) = true := by simp; omega
      have sk : IntKind.i64.wrap ((k : Int) + 1) = (k : Int) + 1 := by rw [IntKind.wrap_i64]; omega
      obtain ⟨x, b, o, cs, hx, eA, hbb, hc, hcs⟩ := SlR.at_ HN.out hin
      obtain ⟨xa, xl⟩ := x
      obtain rfl : cs = [.int .i64 xa, .int .i64 xl] := hcs
      have f0 := (hA.cell (p := ⟨b, o + k * 2 + 0, none⟩) (by show b < _; omega)).trans (hc 0 _ rfl)
      have f1 := (hA.cell (p := ⟨b, o + k * 2 + 1, none⟩) (by show b < _; omega)).trans (hc 1 _ rfl)
      rw [Nat.add_zero] at f0
      have HEA := Lib.hid eA
      have HMEM := Lib.hid (List.mem_of_getElem? hx)
      clear hc eA hx
      rw [HEA.out]
      go_upto_region 6 with fail
      obtain ⟨w3, hw3⟩ : ∃ z, z = wr.alloc (.cells #[.int .i64 xa, .int .i64 xl] 62) := ⟨_, rfl⟩
      obtain ⟨bx, hbx⟩ : ∃ z, z = wr.heap.size := ⟨_, rfl⟩
      rw [← hw3, ← hbx]
      have hA3 := (show Below w1.heap.size w1 w3 by rw [hw3]; exact hA.alloc hA.size _)
      have hX : w3.heap[bx]? = some (.cells #[.int .i64 xa, .int .i64 xl] 62 (0, 0)) := by rw [hw3, hbx]; exact heap_alloc_new _ _
      have x0 := up_fact (show w3.cell? ⟨bx, 0, none⟩ = some (.int .i64 xa) by rw [cell_of_row _ _ 0 _ _ _ hX]; rfl)
      have x1 := up_fact (show w3.cell? ⟨bx, 1, none⟩ = some (.int .i64 xl) by rw [cell_of_row _ _ 1 _ _ _ hX]; rfl)
      have hC := Below.refl w3.heap.size w3
      clear hX hw3 hbx
      cases hw : fkW xa 0 ((s.inn.n : Int) - 1) with
      | false =>
        have HBAD := Lib.hid (show ¬ FkNest ls kind p.inn.length (xa, xl) from fun h => by have h0 := h.1; rw [hcl] at h0; exact Bool.false_ne_true (hw.symm.trans h0))
        go_wp2_with (first | (go_at_call 23; refine (kwithin_any _ _ _ _).mono ?_; rintro e w9 ⟨rfl, rfl⟩) | (go_at_call 46; refine (ksorts_any _ _).mono ?_; rintro e w9 ⟨rfl, rfl⟩))
        go_ret
        exact ⟨false, rfl, (fun h => absurd (h.2 _ HMEM.out) HBAD.out), HB1.out.trans (hA3.mono (by omega))⟩
      | true =>
        cases hw2 : fkW xl 0 ((F.ln : Int) - 1) with
        | false =>
          have HBAD := Lib.hid (show ¬ FkNest ls kind p.inn.length (xa, xl) from fun h => by have h0 := h.2.1; rw [hll] at h0; exact Bool.false_ne_true (hw2.symm.trans h0))
          go_wp2_with (first | (go_at_call 23; refine (kwithin_any _ _ _ _).mono ?_; rintro e w9 ⟨rfl, rfl⟩) | (go_at_call 46; refine (ksorts_any _ _).mono ?_; rintro e w9 ⟨rfl, rfl⟩))
          go_ret
          exact ⟨false, rfl, (fun h => absurd (h.2 _ HMEM.out) HBAD.out), HB1.out.trans (hA3.mono (by omega))⟩
        | true =>
          have hr := fkW_iff.1 hw2
          obtain ⟨q, rfl⟩ : ∃ q : Nat, xl = (q : Int) := ⟨xl.toNat, by omega⟩
          have hql : q < F.ln := by omega
          obtain ⟨l, bl, ol, csl, hl, eL, hbl, hcl2, Al, nl, cl, rfl, _⟩ := SlR.at_ HL.out hql
          have l0 := up_fact (show w3.cell? ⟨bl, ol + q * 4, none⟩ = some (.int .i64 l.ki) from (hA3.cell (p := ⟨bl, ol + q * 4, none⟩) (by show bl < _; omega)).trans (hcl2 0 _ rfl))
          rw [eL] at g3
          have HKI := Lib.hid (show fkS ((ls[((q : Nat) : Int).toNat]?.map PK.ki).getD 0) = fkS l.ki by rw [Int.toNat_natCast, hl]; rfl)
          clear hcl2 hl eL hr
          by_cases hs : fkS l.ki = fkS kind
          · have t1 : (fkS l.ki == fkS kind) = true := by simp [hs]
            have t2 : (fkS l.ki != fkS kind) = false := by simp [hs]
            clear hs
            go_wp2_with (first | (go_at_call 23; refine (kwithin_any _ _ _ _).mono ?_; rintro e w9 ⟨rfl, rfl⟩) | (go_at_call 46; refine (ksorts_any _ _).mono ?_; rintro e w9 ⟨rfl, rfl⟩))
            go_roundw
            case rel => exact ⟨k + 1, by go_num, by omega, hA3⟩
            case measure => simp [intOf] <;> omega
          · have t1 : (fkS l.ki == fkS kind) = false := by simp [hs]
            have t2 : (fkS l.ki != fkS kind) = true := by simp [hs]
            have HBAD := Lib.hid (show ¬ FkNest ls kind p.inn.length (xa, (q : Int)) from fun h => hs (HKI.out.symm.trans h.2.2))
            clear hs
            go_wp2_with (first | (go_at_call 23; refine (kwithin_any _ _ _ _).mono ?_; rintro e w9 ⟨rfl, rfl⟩) | (go_at_call 46; refine (ksorts_any _ _).mono ?_; rintro e w9 ⟨rfl, rfl⟩))
            go_ret
            exact ⟨false, rfl, (fun h => absurd (h.2 _ HMEM.out) HBAD.out), HB1.out.trans (hA3.mono (by omega))⟩

end Go.Proofs.Ytngdolmmaiogiaa

/- The walks of values and anchor of the check. Condition: the values read as plain data. Printed by wip/tools/g32e.py. Printed by wip/tools. -/
namespace Go.Proofs.Ytngdolmmaiogiaa
open Go.RowKit

/-- a value as plain data -/
def ValR (p : Int × Int × Int) (cs : List Value) : Prop := cs = [.int .i64 p.1, .int .i64 p.2.1, .int .i64 p.2.2]
def vlK (v : Int × Int × Int) : Bool := [v.1, v.2.1, v.2.2].all fkM
def anK (has : Bool) (x y : Int) : Bool := [x, y].all fkM && (has || (x == 0 && y == 0))
theorem ShSl.vals {w : World} {B : Nat} {A : Option Addr} {n c : Nat} (h : ShSl w B shValue A n c) : ∃ vs, SlR w B 3 ValR A n c vs :=
  ShSl.slr h fun cs hs => by
    obtain ⟨a, x, y, rfl, _⟩ := hs.unValue
    exact ⟨(a, x, y), rfl⟩
set_option maxRecDepth 100000 in
set_option maxHeartbeats 4000000 in
theorem kvalues_any (B : Nat) (A : Option Addr) (n c : Nat) (vs : List (Int × Int × Int)) (w : World) (h : SlR w B 3 ValR A n c vs) (hB : B ≤ w.heap.size) :
    Calls Try.prog 36 #[.slice A n c] w (RetV w (vs.all vlK)) := by
  have hcap := SlR.cap h
  have hlen := SlR.length h
  have HI := Lib.hid h
  clear h
  have hA0 := Below.refl w.heap.size w
  go_enter Try.func36, Try.ntmps36
  go_upto_region 2 with fail
  go_loopw [7] (fun v wr => ∃ k : Nat, v = .int .i64 (k : Int) ∧ k ≤ n ∧ Hid ((vs.take k).all vlK = true) ∧ Below w.heap.size w wr) (fun v _ => n - (intOf v).toNat)
  case atStart => exact ⟨0, rfl, Nat.zero_le _, Lib.hid rfl, hA0⟩
  case round =>
    obtain ⟨k, rfl, hk, hpre, hA⟩ := hrel
    have HPRE := hpre
    clear hpre
    by_cases hin : k < n
    rotate_left
    · have q1 : decide ((k : Int) < (n : Int)) = false := by simp; omega
      have q2 : decide (k < n) = false := by simp; omega
      have HR := Lib.hid (show vs.all vlK = true from all_done (by omega) HPRE.out)
      clear hin
      go_wp2_with fail
      go_ret
      rw [HR.out]
      exact ⟨rfl, hA⟩
    · have q1 : decide ((k : Int) < (n : Int)) = true := by simp; omega
      have q2 : decide (k < n) = true := by simp; omega
      have sk : IntKind.i64.wrap ((k : Int) + 1) = (k : Int) + 1 := by rw [IntKind.wrap_i64]; omega
      obtain ⟨x, b, o, cs, hx, eA, hbb, hc, hcs⟩ := SlR.at_ HI.out hin
      obtain ⟨va, vx, vy⟩ := x
      obtain rfl : cs = [.int .i64 va, .int .i64 vx, .int .i64 vy] := hcs
      have f0 := (hA.cell (p := ⟨b, o + k * 3 + 0, none⟩) (by show b < _; omega)).trans (hc 0 _ rfl)
      have f1 := (hA.cell (p := ⟨b, o + k * 3 + 1, none⟩) (by show b < _; omega)).trans (hc 1 _ rfl)
      have f2 := (hA.cell (p := ⟨b, o + k * 3 + 2, none⟩) (by show b < _; omega)).trans (hc 2 _ rfl)
      rw [Nat.add_zero] at f0
      have HEA := Lib.hid eA
      have HX := Lib.hid hx
      clear hc eA hx
      obtain ⟨t1, ht1⟩ : ∃ q, q = [va, vx, vy].all fkM := ⟨_, rfl⟩
      have HME := Lib.hid (fun W {A2 : Option Addr} {n2 c2 : Nat} (hi : Ints W W.heap.size A2 n2 c2 [va, vx, vy]) => show Calls Try.prog 24 #[.slice A2 n2 c2] W (fun e w' => e = .returned (.bool t1) ∧ W = w') from by rw [ht1]; exact kmeasure_any W.heap.size A2 n2 c2 [va, vx, vy] W hi)
      rw [HEA.out]
      go_upto_region 4 with fail
      obtain ⟨w3, hw3⟩ : ∃ z, z = wr.alloc (.cells #[.int .i64 va, .int .i64 vx, .int .i64 vy] 111) := ⟨_, rfl⟩
      obtain ⟨bx, hbx⟩ : ∃ z, z = wr.heap.size := ⟨_, rfl⟩
      rw [← hw3, ← hbx]
      have hA3 := (show Below w.heap.size w w3 by rw [hw3]; exact hA.alloc hA.size _)
      have hX : w3.heap[bx]? = some (.cells #[.int .i64 va, .int .i64 vx, .int .i64 vy] 111 (0, 0)) := by rw [hw3, hbx]; exact heap_alloc_new _ _
      have x0 := up_fact (show w3.cell? ⟨bx, 0, none⟩ = some (.int .i64 va) by rw [cell_of_row _ _ 0 _ _ _ hX]; rfl)
      have x1 := up_fact (show w3.cell? ⟨bx, 1, none⟩ = some (.int .i64 vx) by rw [cell_of_row _ _ 1 _ _ _ hX]; rfl)
      have x2 := up_fact (show w3.cell? ⟨bx, 2, none⟩ = some (.int .i64 vy) by rw [cell_of_row _ _ 2 _ _ _ hX]; rfl)
      have hC := Below.refl w3.heap.size w3
      clear hX hw3 hbx
      cases t1 with
      | true =>
        have HT := Lib.hid (show vlK (va, vx, vy) = true from ht1.symm)
        clear ht1
        go_wp2_with (go_at_call 24; refine (HME.out _ (Ints.lit3 _ _ _ _ _)).mono ?_; rintro e w9 ⟨rfl, rfl⟩)
        go_roundw
        case rel => exact ⟨k + 1, by go_num, by omega, Lib.hid (all_next HX.out HPRE.out HT.out), hA3.alloc hA3.size _⟩
        case measure => simp [intOf] <;> omega
      | false =>
        have HR := Lib.hid (show vs.all vlK = false from all_bad HX.out (show vlK (va, vx, vy) = false from ht1.symm))
        clear ht1
        go_wp2_with (go_at_call 24; refine (HME.out _ (Ints.lit3 _ _ _ _ _)).mono ?_; rintro e w9 ⟨rfl, rfl⟩)
        go_ret
        rw [HR.out]
        exact ⟨rfl, hA3.alloc hA3.size _⟩

set_option maxRecDepth 100000 in
set_option maxHeartbeats 4000000 in
theorem kanchor_any (has : Bool) (x y : Int) (w : World) :
    Calls Try.prog 47 #[.bool has, .agg #[.int .i64 x, .int .i64 y]] w (RetV w (anK has x y)) := by
  obtain ⟨w1, hw_w1⟩ : ∃ z, z = w.alloc (.cells #[.int .i64 x, .int .i64 y] 115) := ⟨_, rfl⟩
  have hs_w1 : w1.heap.size = w.heap.size + 1 := by rw [hw_w1]; simp
  have hb_w1 : Below w.heap.size w w1 := by rw [hw_w1]; exact (Below.refl _ _).alloc (Nat.le_refl _) _
  have hx_0 : w1.heap[w.heap.size]? = some (.cells #[.int .i64 x, .int .i64 y] 115 (0, 0)) := by rw [hw_w1]; exact heap_alloc_new _ _
  have a0 := up_fact (show w1.cell? ⟨w.heap.size, 0, none⟩ = some (.int .i64 x) by rw [cell_of_row _ _ 0 _ _ _ hx_0]; rfl)
  have a1 := up_fact (show w1.cell? ⟨w.heap.size, 1, none⟩ = some (.int .i64 y) by rw [cell_of_row _ _ 1 _ _ _ hx_0]; rfl)
  have hA0 := Below.refl w1.heap.size w1
  have HS1 := Lib.hid hs_w1
  have hs1 : w.heap.size + 0 < w1.heap.size := by omega
  have HB1 := Lib.hid hb_w1
  have HW_w1 := Lib.hid hw_w1
  clear hw_w1 hs_w1 hb_w1
  clear hx_0
  obtain ⟨t1, ht1⟩ : ∃ q, q = [x, y].all fkM := ⟨_, rfl⟩
  have HME := Lib.hid (fun W {A2 : Option Addr} {n2 c2 : Nat} (hi : Ints W W.heap.size A2 n2 c2 [x, y]) => show Calls Try.prog 24 #[.slice A2 n2 c2] W (RetV W t1) from by rw [ht1]; exact (kmeasure_any W.heap.size A2 n2 c2 [x, y] W hi).mono fun e w' h => ⟨h.1, by rw [← h.2]; exact Below.refl _ _⟩)
  obtain ⟨res, hres⟩ : ∃ q, q = anK has x y := ⟨_, rfl⟩
  rw [← hres]
  unfold anK at hres
  rw [← ht1] at hres
  clear ht1
  cases t1 with
  | false =>
    have HR := Lib.hid (show res = false from hres)
    clear hres
    go_enter Try.func47, Try.ntmps47
    go_upto_region 1 with fail
    rw [← HW_w1.out]
    go_wp2_with (go_at_call 24; refine (HME.out _ (Ints.lit2 _ _ _ _)).mono ?_; rintro e w9 ⟨rfl, hb9⟩; have hA9 := bgo (hA0.alloc hA0.size _) hb9)
    go_ret
    rw [HR.out]
    exact ⟨rfl, HB1.out.trans (hA9.mono (by omega))⟩
  | true =>
    cases has with
    | true =>
      have HR := Lib.hid (show res = true from hres)
      clear hres
      go_enter Try.func47, Try.ntmps47
      go_upto_region 1 with fail
      rw [← HW_w1.out]
      go_wp2_with (go_at_call 24; refine (HME.out _ (Ints.lit2 _ _ _ _)).mono ?_; rintro e w9 ⟨rfl, hb9⟩; have hA9 := bgo (hA0.alloc hA0.size _) hb9)
      go_ret
      rw [HR.out]
      exact ⟨rfl, HB1.out.trans (hA9.mono (by omega))⟩
    | false =>
      cases hx : x == 0 with
      | false =>
        have HR := Lib.hid (show res = false by rw [hres, hx]; rfl)
        clear hres
        go_enter Try.func47, Try.ntmps47
        go_upto_region 1 with fail
        rw [← HW_w1.out]
        go_wp2_with (go_at_call 24; refine (HME.out _ (Ints.lit2 _ _ _ _)).mono ?_; rintro e w9 ⟨rfl, hb9⟩; have hA9 := bgo (hA0.alloc hA0.size _) hb9)
        go_ret
        rw [HR.out]
        exact ⟨rfl, HB1.out.trans (hA9.mono (by omega))⟩
      | true =>
        cases hy : y == 0 with
        | false =>
          have HR := Lib.hid (show res = false by rw [hres, hx, hy]; rfl)
          clear hres
          go_enter Try.func47, Try.ntmps47
          go_upto_region 1 with fail
          rw [← HW_w1.out]
          go_wp2_with (go_at_call 24; refine (HME.out _ (Ints.lit2 _ _ _ _)).mono ?_; rintro e w9 ⟨rfl, hb9⟩; have hA9 := bgo (hA0.alloc hA0.size _) hb9)
          go_ret
          rw [HR.out]
          exact ⟨rfl, HB1.out.trans (hA9.mono (by omega))⟩
        | true =>
          have HR := Lib.hid (show res = true by rw [hres, hx, hy]; rfl)
          clear hres
          go_enter Try.func47, Try.ntmps47
          go_upto_region 1 with fail
          rw [← HW_w1.out]
          go_wp2_with (go_at_call 24; refine (HME.out _ (Ints.lit2 _ _ _ _)).mono ?_; rintro e w9 ⟨rfl, hb9⟩; have hA9 := bgo (hA0.alloc hA0.size _) hb9)
          go_ret
          rw [HR.out]
          exact ⟨rfl, HB1.out.trans (hA9.mono (by omega))⟩

end Go.Proofs.Ytngdolmmaiogiaa

/- The walk of glyphs of the check. Condition: the font lies as one. Printed by wip/tools/g32i.py. Printed by wip/tools. -/
namespace Go.Proofs.Ytngdolmmaiogiaa
open Go.RowKit

/-- what is told of the glyphs is all zero -/
def GlZero (w : World) (F : Fnt) : Prop := ∀ k, k < F.gn → ∃ b o, F.GA = some ⟨b, o, none⟩ ∧ w.cell? ⟨b, o + k * 4, none⟩ = some (.int .i64 0) ∧ w.cell? ⟨b, o + k * 4 + 1, none⟩ = some (.int .i64 0) ∧ w.cell? ⟨b, o + k * 4 + 2, none⟩ = some (.int .i64 0) ∧ w.cell? ⟨b, o + k * 4 + 3, none⟩ = some (.slice none 0 0)
set_option maxRecDepth 100000 in
set_option maxHeartbeats 4000000 in
theorem kglyphs_any (F : Fnt) (B : Nat) (w : World) (h : FntOk w B F) (hB : B ≤ w.heap.size) :
    Calls Try.prog 17 #[.agg #[.int .i64 F.em, .slice F.GA F.gn F.gc, .slice F.MA F.mn F.mc, .slice F.LA F.ln F.lc, .slice F.FA F.fn F.fc, .slice F.SA F.sn F.sc]] w (RetB w (fun b => fkW F.em 1 16384 = true → fkW (F.gn : Int) 1 4096 = true → GlZero w F → b = true)) := by
  have hcap := h.hG.cap
  have HG0 := Lib.hid h.hG
  clear h
  obtain ⟨w1, hw_w1⟩ : ∃ z, z = w.alloc (.cells #[.int .i64 F.em, .slice F.GA F.gn F.gc, .slice F.MA F.mn F.mc, .slice F.LA F.ln F.lc, .slice F.FA F.fn F.fc, .slice F.SA F.sn F.sc] 71) := ⟨_, rfl⟩
  have hs_w1 : w1.heap.size = w.heap.size + 1 := by rw [hw_w1]; simp
  have hb_w1 : Below w.heap.size w w1 := by rw [hw_w1]; exact (Below.refl _ _).alloc (Nat.le_refl _) _
  have hx_0 : w1.heap[w.heap.size]? = some (.cells #[.int .i64 F.em, .slice F.GA F.gn F.gc, .slice F.MA F.mn F.mc, .slice F.LA F.ln F.lc, .slice F.FA F.fn F.fc, .slice F.SA F.sn F.sc] 71 (0, 0)) := by rw [hw_w1]; exact heap_alloc_new _ _
  have g0 := up_fact (show w1.cell? ⟨w.heap.size, 0, none⟩ = some (.int .i64 F.em) by rw [cell_of_row _ _ 0 _ _ _ hx_0]; rfl)
  have g1 := up_fact (show w1.cell? ⟨w.heap.size, 1, none⟩ = some (.slice F.GA F.gn F.gc) by rw [cell_of_row _ _ 1 _ _ _ hx_0]; rfl)
  have g2 := up_fact (show w1.cell? ⟨w.heap.size, 2, none⟩ = some (.slice F.MA F.mn F.mc) by rw [cell_of_row _ _ 2 _ _ _ hx_0]; rfl)
  have g3 := up_fact (show w1.cell? ⟨w.heap.size, 3, none⟩ = some (.slice F.LA F.ln F.lc) by rw [cell_of_row _ _ 3 _ _ _ hx_0]; rfl)
  have g4 := up_fact (show w1.cell? ⟨w.heap.size, 4, none⟩ = some (.slice F.FA F.fn F.fc) by rw [cell_of_row _ _ 4 _ _ _ hx_0]; rfl)
  have g5 := up_fact (show w1.cell? ⟨w.heap.size, 5, none⟩ = some (.slice F.SA F.sn F.sc) by rw [cell_of_row _ _ 5 _ _ _ hx_0]; rfl)
  have hA0 := Below.refl w1.heap.size w1
  have HS1 := Lib.hid hs_w1
  have hs1 : w.heap.size + 0 < w1.heap.size := by omega
  have HB1 := Lib.hid hb_w1
  have HW_w1 := Lib.hid hw_w1
  clear hw_w1 hs_w1 hb_w1
  clear hx_0
  have HG := Lib.hid (HG0.out.below (HB1.out.mono hB))
  cases z1 : fkW F.em 1 16384 with
  | false =>
    have HZ1 := Lib.hid z1
    go_enter Try.func17, Try.ntmps17
    go_upto_region 1 with fail
    rw [← HW_w1.out]
    go_wp2_with (first | (go_at_call 23; refine (kwithin_any _ _ _ _).mono ?_; rintro e w9 ⟨rfl, rfl⟩))
    go_ret
    exact ⟨false, rfl, (fun h _ _ => (by first | exact h | exact HZ1.out.symm.trans h)), HB1.out⟩
  | true =>
    cases z2 : fkW (F.gn : Int) 1 4096 with
    | false =>
      have HZ2 := Lib.hid z2
      go_enter Try.func17, Try.ntmps17
      go_upto_region 1 with fail
      rw [← HW_w1.out]
      go_wp2_with (first | (go_at_call 23; refine (kwithin_any _ _ _ _).mono ?_; rintro e w9 ⟨rfl, rfl⟩))
      go_ret
      exact ⟨false, rfl, (fun _ h _ => (by first | exact h | exact HZ2.out.symm.trans h)), HB1.out⟩
    | true =>
      go_enter Try.func17, Try.ntmps17
      go_upto_region 1 with fail
      rw [← HW_w1.out]
      go_upto_region 4 with (first | (go_at_call 23; refine (kwithin_any _ _ _ _).mono ?_; rintro e w9 ⟨rfl, rfl⟩))
      clear z1 z2
      go_loopw [22] (fun v wr => ∃ k : Nat, v = .int .i64 (k : Int) ∧ k ≤ F.gn ∧ Below w1.heap.size w1 wr) (fun v _ => F.gn - (intOf v).toNat)
      case atStart => exact ⟨0, rfl, Nat.zero_le _, hA0⟩
      case round =>
        obtain ⟨k, rfl, hk, hA⟩ := hrel
        by_cases hin : k < F.gn
        rotate_left
        · have r1 : decide ((k : Int) < (F.gn : Int)) = false := by simp; omega
          have r2 : decide (k < F.gn) = false := by simp; omega
          clear hin
          go_wp2_with fail
          go_ret
          exact ⟨true, rfl, (fun _ _ _ => rfl), HB1.out.trans (hA.mono (by omega))⟩
        have r1 : decide ((k : Int) < (F.gn : Int)) = true := by simp; omega
        have r2 : decide (k < F.gn) = true := by simp; omega
        have sk : IntKind.i64.wrap ((k : Int) + 1) = (k : Int) + 1 := by rw [IntKind.wrap_i64]; omega
        obtain ⟨b, o, ad, ki, aa, Aca, nca, cca, eA, hbb, ⟨c0, c1, c2, c3⟩, _, _, _, hca⟩ := HG.out.atInfo hin
        obtain ⟨zs, hzs⟩ := hca.ints
        have hzl := hzs.length
        have hzc := hzs.cap
        have HZ := Lib.hid (show GlZero w F → ad = 0 ∧ ki = 0 ∧ aa = 0 ∧ nca = 0 from fun hz => by
          obtain ⟨b', o', e', q0, q1, q2, q3⟩ := hz k hin
          rw [eA] at e'
          cases e'
          have up : ∀ {p : Addr} {v : Value}, w.cell? p = some v → w1.cell? p = some v := fun h => (HB1.out.cell (World.block_lt_of_cell? w _ h)).trans h
          have q0 := up q0
          have q1 := up q1
          have q2 := up q2
          have q3 := up q3
          rw [c0] at q0; rw [c1] at q1; rw [c2] at q2; rw [c3] at q3
          cases q0; cases q1; cases q2; cases q3
          exact ⟨rfl, rfl, rfl, rfl⟩)
        have y0 := (hA.cell (p := ⟨b, o + k * 4, none⟩) (by show b < _; omega)).trans c0
        have y1 := (hA.cell (p := ⟨b, o + k * 4 + 1, none⟩) (by show b < _; omega)).trans c1
        have y2 := (hA.cell (p := ⟨b, o + k * 4 + 2, none⟩) (by show b < _; omega)).trans c2
        have y3 := (hA.cell (p := ⟨b, o + k * 4 + 3, none⟩) (by show b < _; omega)).trans c3
        have HEA := Lib.hid eA
        obtain ⟨t1, ht1⟩ : ∃ q, q = [ad].all fkM := ⟨_, rfl⟩
        have HM1 := Lib.hid (fun W {A2 : Option Addr} {n2 c2 : Nat} (hi : Ints W W.heap.size A2 n2 c2 [ad]) => show Calls Try.prog 24 #[.slice A2 n2 c2] W (RetV W t1) from by rw [ht1]; exact (kmeasure_any W.heap.size A2 n2 c2 [ad] W hi).mono fun e w' h => ⟨h.1, by rw [← h.2]; exact Below.refl _ _⟩)
        obtain ⟨t4, ht4⟩ : ∃ q, q = zs.all fkM := ⟨_, rfl⟩
        have HM2 := Lib.hid (fun W (hW : Below w1.heap.size w1 W) => show Calls Try.prog 24 #[.slice Aca nca cca] W (RetV W t4) from by rw [ht4]; exact (kmeasure_any B Aca nca cca zs W (hzs.below (hW.mono (by omega)))).mono fun e w' h => ⟨h.1, by rw [← h.2]; exact Below.refl _ _⟩)
        have HRI := Lib.hid (fun W (hW : Below w1.heap.size w1 W) => krising_any B Aca nca cca zs W (hzs.below (hW.mono (by omega))) (by have := hW.size; omega))
        have HT1 := Lib.hid (show ad = 0 → t1 = true from fun h => by rw [ht1, h]; rfl)
        have HT4 := Lib.hid (show nca = 0 → t4 = true from fun h => by
          have : zs = [] := List.eq_nil_of_length_eq_zero (by omega)
          rw [ht4, this]; rfl)
        clear c0 c1 c2 c3 eA hca hzs ht1 ht4
        rw [HEA.out]
        go_upto_region 6 with fail
        obtain ⟨w3, hw3⟩ : ∃ z, z = wr.alloc (.cells #[.int .i64 ad, .int .i64 ki, .int .i64 aa, .slice Aca nca cca] 77) := ⟨_, rfl⟩
        obtain ⟨bx, hbx⟩ : ∃ z, z = wr.heap.size := ⟨_, rfl⟩
        rw [← hw3, ← hbx]
        have hA3 := (show Below w1.heap.size w1 w3 by rw [hw3]; exact hA.alloc hA.size _)
        have hX : w3.heap[bx]? = some (.cells #[.int .i64 ad, .int .i64 ki, .int .i64 aa, .slice Aca nca cca] 77 (0, 0)) := by rw [hw3, hbx]; exact heap_alloc_new _ _
        have x0 := up_fact (show w3.cell? ⟨bx, 0, none⟩ = some (.int .i64 ad) by rw [cell_of_row _ _ 0 _ _ _ hX]; rfl)
        have x1 := up_fact (show w3.cell? ⟨bx, 1, none⟩ = some (.int .i64 ki) by rw [cell_of_row _ _ 1 _ _ _ hX]; rfl)
        have x2 := up_fact (show w3.cell? ⟨bx, 2, none⟩ = some (.int .i64 aa) by rw [cell_of_row _ _ 2 _ _ _ hX]; rfl)
        have x3 := up_fact (show w3.cell? ⟨bx, 3, none⟩ = some (.slice Aca nca cca) by rw [cell_of_row _ _ 3 _ _ _ hX]; rfl)
        have hC := Below.refl w3.heap.size w3
        clear hX hw3 hbx
        go_cut [42] (fun v W => ∃ t : Bool, v = .bool t ∧ Below w1.heap.size w1 W ∧ Below w3.heap.size w3 W ∧ Hid (t = true → ¬ GlZero w F))
        case first =>
          cases t1 with
          | false =>
            go_wp2_with (first | (go_at_call 24; refine (HM1.out _ (Ints.lit1 _ _ _)).mono ?_; rintro e w4 ⟨rfl, hb4⟩; have hA4 := bgo (hA3.alloc hA3.size _) hb4; have hC4 := bgo (hC.alloc hC.size _) hb4) | (go_at_call 23; refine (kwithin_any _ _ _ _).mono ?_; rintro e w9 ⟨rfl, rfl⟩))
            go_meet
            exact ⟨true, rfl, hA4, hC4, Lib.hid (fun _ h => by cases HT1.out (HZ.out h).1)⟩
          | true =>
            cases t2 : fkW ki 0 3 with
            | false =>
              have HT2 := Lib.hid (show ¬ GlZero w F from fun h => by rw [(HZ.out h).2.1] at t2; exact absurd t2 (by decide))
              go_wp2_with (first | (go_at_call 24; refine (HM1.out _ (Ints.lit1 _ _ _)).mono ?_; rintro e w4 ⟨rfl, hb4⟩; have hA4 := bgo (hA3.alloc hA3.size _) hb4; have hC4 := bgo (hC.alloc hC.size _) hb4) | (go_at_call 23; refine (kwithin_any _ _ _ _).mono ?_; rintro e w9 ⟨rfl, rfl⟩))
              go_meet
              exact ⟨true, rfl, hA4, hC4, Lib.hid (fun _ => HT2.out)⟩
            | true =>
              cases t3 : fkW aa 0 255 with
              | false =>
                have HT3 := Lib.hid (show ¬ GlZero w F from fun h => by rw [(HZ.out h).2.2.1] at t3; exact absurd t3 (by decide))
                go_wp2_with (first | (go_at_call 24; refine (HM1.out _ (Ints.lit1 _ _ _)).mono ?_; rintro e w4 ⟨rfl, hb4⟩; have hA4 := bgo (hA3.alloc hA3.size _) hb4; have hC4 := bgo (hC.alloc hC.size _) hb4) | (go_at_call 23; refine (kwithin_any _ _ _ _).mono ?_; rintro e w9 ⟨rfl, rfl⟩))
                go_meet
                exact ⟨true, rfl, hA4, hC4, Lib.hid (fun _ => HT3.out)⟩
              | true =>
                go_wp2_with (first | (go_at_call 24; refine (HM1.out _ (Ints.lit1 _ _ _)).mono ?_; rintro e w4 ⟨rfl, hb4⟩; have hA4 := bgo (hA3.alloc hA3.size _) hb4; have hC4 := bgo (hC.alloc hC.size _) hb4) | (go_at_call 23; refine (kwithin_any _ _ _ _).mono ?_; rintro e w9 ⟨rfl, rfl⟩))
                go_meet
                exact ⟨false, rfl, hA4, hC4, Lib.hid (fun h => by cases h)⟩
        obtain ⟨t, rfl, hA6, hC6, HBAD⟩ := hcut
        clear hA3 hC
        rcases t with _ | _
        rotate_left
        · go_wp2_with fail
          go_ret
          exact ⟨false, rfl, (by intro h; exact absurd h (HBAD.out (by trivial))), HB1.out.trans (hA6.mono (by omega))⟩
        go_upto_region 8 with fail
        obtain ⟨wo, hwo⟩ : ∃ wo : World, wo = wc := ⟨_, rfl⟩
        subst hwo
        go_cut [69] (fun v W => ∃ t : Bool, v = .bool t ∧ Below w1.heap.size w1 W ∧ Below w3.heap.size w3 W ∧ Hid (t = true → ¬ GlZero w F))
        case first =>
          by_cases h15 : nca ≤ 15
          rotate_left
          · have u1 : decide ((15 : Int) < (nca : Int)) = true := by simp; omega
            have u2 : decide (15 < nca) = true := by simp; omega
            go_wp2_with (first | fail)
            go_meet
            exact ⟨true, rfl, hA6, hC6, Lib.hid (fun _ h => by have := (HZ.out h).2.2.2; omega)⟩
          have u1 : decide ((15 : Int) < (nca : Int)) = false := by simp; omega
          have u2 : decide (15 < nca) = false := by simp; omega
          cases t4 with
          | false =>
            go_wp2_with (first | (go_at_call 24; refine (HM2.out _ hA6).mono ?_; rintro e w7 ⟨rfl, hb7⟩; have hA7 := bgo hA6 hb7; have hC7 := bgo hC6 hb7))
            go_meet
            exact ⟨true, rfl, hA7, hC7, Lib.hid (fun _ h => by cases HT4.out (HZ.out h).2.2.2)⟩
          | true =>
            by_cases h0 : nca = 0
            · have u3 : decide ((0 : Int) < (nca : Int)) = false := by simp; omega
              have u4 : decide (0 < nca) = false := by simp; omega
              have HN := Lib.hid h0
              clear h0
              go_wp2_with (first | (go_at_call 24; refine (HM2.out _ hA6).mono ?_; rintro e w7 ⟨rfl, hb7⟩; have hA7 := bgo hA6 hb7; have hC7 := bgo hC6 hb7) | (go_at_call 25; refine (HRI.out _ hA7).mono ?_; rintro e w8 ⟨b8, rfl, hp8, hb8⟩; have hA8 := bgo hA7 hb8; have hC8 := bgo hC7 hb8; have HP8 := Lib.hid hp8; clear hp8 hb8; rcases b8 with _ | _))
              · go_meet
                exact ⟨true, rfl, hA8, hC8, Lib.hid (fun _ _ => by cases HP8.out (by have := HN.out; omega))⟩
              · go_meet
                exact ⟨false, rfl, hA8, hC8, Lib.hid (fun h => by cases h)⟩
            · have u3 : decide ((0 : Int) < (nca : Int)) = true := by simp; omega
              have u4 : decide (0 < nca) = true := by simp; omega
              have HN := Lib.hid h0
              clear h0
              by_cases k2 : ki = 2
              · have u5 : (ki == 2) = true := by simp [k2]
                have u6 : (ki != 2) = false := by simp [k2]
                clear k2
                go_wp2_with (first | (go_at_call 24; refine (HM2.out _ hA6).mono ?_; rintro e w7 ⟨rfl, hb7⟩; have hA7 := bgo hA6 hb7; have hC7 := bgo hC6 hb7) | (go_at_call 25; refine (HRI.out _ hA7).mono ?_; rintro e w8 ⟨b8, rfl, hp8, hb8⟩; have hA8 := bgo hA7 hb8; have hC8 := bgo hC7 hb8; have HP8 := Lib.hid hp8; clear hp8 hb8; rcases b8 with _ | _))
                · go_meet
                  exact ⟨true, rfl, hA8, hC8, Lib.hid (fun _ h => HN.out (HZ.out h).2.2.2)⟩
                · go_meet
                  exact ⟨false, rfl, hA8, hC8, Lib.hid (fun h => by cases h)⟩
              · have u5 : (ki == 2) = false := by simp [k2]
                have u6 : (ki != 2) = true := by simp [k2]
                clear k2
                go_wp2_with (first | (go_at_call 24; refine (HM2.out _ hA6).mono ?_; rintro e w7 ⟨rfl, hb7⟩; have hA7 := bgo hA6 hb7; have hC7 := bgo hC6 hb7) | (go_at_call 25; refine (HRI.out _ hA7).mono ?_; rintro e w8 ⟨b8, rfl, hp8, hb8⟩; have hA8 := bgo hA7 hb8; have hC8 := bgo hC7 hb8; have HP8 := Lib.hid hp8; clear hp8 hb8; rcases b8 with _ | _))
                · go_meet
                  exact ⟨true, rfl, hA8, hC8, Lib.hid (fun _ h => HN.out (HZ.out h).2.2.2)⟩
                · go_meet
                  exact ⟨true, rfl, hA8, hC8, Lib.hid (fun _ h => HN.out (HZ.out h).2.2.2)⟩
        obtain ⟨t, rfl, hA9, hC9, HBAD2⟩ := hcut
        rcases t with _ | _
        rotate_left
        · go_wp2_with fail
          go_ret
          exact ⟨false, rfl, (by intro h; exact absurd h (HBAD2.out (by trivial))), HB1.out.trans (hA9.mono (by omega))⟩
        go_wp2_with fail
        go_roundw
        case rel => exact ⟨k + 1, by go_num, by omega, hA9⟩
        case measure => simp [intOf] <;> omega

end Go.Proofs.Ytngdolmmaiogiaa
