/- The walk of the reference's Pairs. Condition: two lists of one length, at most a thousand. -/
import Derived.Test.YtbpaogmnaodcaaaDoorRefR
import Derived.Test.YtbpaogmnaodcaaaDoorRefS
import Derived.Test.YtbpaogmnaodcaaaDoorRefF
namespace Go.Proofs.YtbpaogmnaodcaaaDoor
open Go.RowKit

theorem infoROpen : (Tryd.prog.info? 48).map (fun i => (i.zero, i.size, i.bytes)) = some (some (.agg #[.int .i64 0, .int .i32 0]), 2, 16) := by kernel_rfl
/-- the reference's stack lies below -/
def StR (i : Nat) (st : List (Int × Int)) : Prop := ∀ p ∈ st, ∃ a : Nat, p.1 = (a : Int) ∧ a < i
/-- Up to a sign the pairs are told. -/
def RPrsRel (w0 : World) (rs cs : List Int) (total : List (Int × Int)) (v5 v6 v7 : Value) (wr : World) : Prop :=
  ∃ (k m1 m2 c1 c2 : Nat) (pre r cpre cr : List Int) (st out : List (Int × Int)) (A1 A2 : Option Addr), v6 = .slice A1 m1 c1 ∧ v5 = .slice A2 m2 c2 ∧ v7 = .int .i64 (k : Int) ∧ pre.length = k ∧ cpre.length = k ∧ rs = pre ++ r ∧ cs = cpre ++ cr ∧
    Duo .i64 wr w0.heap.size 48 A1 m1 c1 st ∧ Row2 .i64 wr w0.heap.size 29 A2 m2 c2 out ∧ Apart A1 A2 ∧ m1 ≤ 63 ∧ m2 ≤ k ∧ StR k st ∧ prs k (stOf st) out r cr = total ∧ Below w0.heap.size w0 wr

set_option maxRecDepth 100000 in
set_option maxHeartbeats 4000000 in
theorem rpairs_any (B : Nat) (A A2 : Option Addr) (n c c2 : Nat) (rs cs : List Int) (w : World) (h : Runes w B A n c rs) (h2 : Ints w B A2 n c2 cs) (hB : B ≤ w.heap.size) (hn : n ≤ 1000) :
    Calls Tryd.prog 11 #[.slice A n c, .slice A2 n c2] w (RetPairs w (prs 0 [] [] rs cs)) := by
  have hnn : ((n : Int) != (n : Int)) = false := by simp
  have hcap := h.cap
  have hcap2 := h2.cap
  have HI := Lib.hid h
  have HI2 := Lib.hid h2
  have HL := Lib.hid h.length
  have HL2 := Lib.hid h2.length
  clear h h2
  go_enter Tryd.func11, Tryd.ntmps11
  go_wp2_with fail
  go_loopw [5, 6, 7] (fun v5 v6 v7 wr => RPrsRel w rs cs (prs 0 [] [] rs cs) v5 v6 v7 wr) (fun _ _ i _ => n - (intOf i).toNat)
  case atStart => exact ⟨0, 0, 0, 0, 0, [], rs, [], cs, [], [], none, none, rfl, rfl, rfl, rfl, rfl, rfl, rfl, Duo.nil_ _ _ _ _, Row2.nil_ _ _ _ _, Apart.none_left _, by omega, Nat.le_refl _, by intro p hp; simp at hp, rfl, Below.refl _ _⟩
  case round =>
    obtain ⟨k, m1, m2, q1, q2, pre, r, cpre, cr, st, out, S1, S2, rfl, rfl, rfl, hk, hkc, hz, hzc, hst, hout, hap, hm1, hm2, hsk, htot, hbel⟩ := hrel
    have hs := hbel.size
    have hsc := hst.cap
    have hoc := hout.cap
    rcases r with _ | ⟨x, r⟩
    · have hge : n ≤ k := by have := HL.out; rw [hz] at this; simp at this; omega
      have hkn : k ≤ n := by have := HL.out; rw [hz] at this; simp at this; omega
      have hcr : prs 0 [] [] rs cs = out := by rw [← htot]; simp [prs]
      have HTT := Lib.hid hcr
      have HOUT := Lib.hid hout
      clear hz hzc hk hkc hst hout hap hsk htot hcr
      go_wp2_with (go_at_call 24; refine (rsorted_any wr w.heap.size S2 m2 q2 out HOUT.out hs (by omega)).mono ?_; rintro e w5 ⟨rfl, l5, hperm, hpw, hrow, hb5⟩)
      go_ret
      rw [HTT.out]
      have hol : out.length = m2 := HOUT.out.1
      exact ⟨S2, q2, l5, by rw [hol]; rfl, hperm, hpw, by rw [hol]; exact hrow, hbel.trans (hb5.mono (Nat.le_refl _))⟩
    · rcases cr with _ | ⟨y, cr⟩
      · exfalso; have h1 := HL.out; have h2 := HL2.out; rw [hz] at h1; rw [hzc] at h2; simp at h1 h2; omega
      have hlt : k < n := by have := HL.out; rw [hz] at this; simp at this; omega
      obtain ⟨b, of, rfl, hbb, hcx⟩ := (HI.out.below (hbel.mono hB)).get (k := k) (x := x) (by rw [hz, ← hk]; simp)
      obtain ⟨b2, of2, rfl, hbb2, _⟩ := HI2.out.get (k := k) (x := y) (by rw [hzc, ← hkc]; simp)
      have HZ := Lib.hid hz
      have HZC := Lib.hid hzc
      have HK := Lib.hid hk
      have HKC := Lib.hid hkc
      have HST := Lib.hid hst
      have HOUT := Lib.hid hout
      have HAP := Lib.hid hap
      have HSK := Lib.hid hsk
      have HT := Lib.hid htot
      have HX := Lib.hid (show (pre ++ x :: r)[k]? = some x by rw [← hk]; simp)
      have HY := Lib.hid (show (cpre ++ y :: cr)[k]? = some y by rw [← hkc]; simp)
      clear hz hzc hk hkc hst hout hap hsk htot
      go_upto_region 9 with (go_at_call 22; refine (rof_any x _).mono ?_; rintro e w1 ⟨p1, p2, p3, p4, p5, p6, rfl, hb1⟩)
      have hs1 := hb1.size
      have hbelA : Below w.heap.size w (w1.alloc (.cells #[.int .i64 (biOf x), .int .i64 p1, .int .i64 p2, .int .i64 p3, .int .i64 p4, .int .i64 p5, .int .i32 p6, .int .i32 (paOf x), .bool (opOf x)] 31)) :=
        (hbel.trans (hb1.mono hs)).alloc (by omega) _
      have hstA := (HST.out.below hb1 (Nat.le_refl _)).alloc (.cells #[.int .i64 (biOf x), .int .i64 p1, .int .i64 p2, .int .i64 p3, .int .i64 p4, .int .i64 p5, .int .i32 p6, .int .i32 (paOf x), .bool (opOf x)] 31)
      have houtA := (HOUT.out.below hb1 (Nat.le_refl _)).alloc (.cells #[.int .i64 (biOf x), .int .i64 p1, .int .i64 p2, .int .i64 p3, .int .i64 p4, .int .i64 p5, .int .i32 p6, .int .i32 (paOf x), .bool (opOf x)] 31)
      have c7 : (w1.alloc (.cells #[.int .i64 (biOf x), .int .i64 p1, .int .i64 p2, .int .i64 p3, .int .i64 p4, .int .i64 p5, .int .i32 p6, .int .i32 (paOf x), .bool (opOf x)] 31)).cell? ⟨w1.heap.size, 7, none⟩ = some (.int .i32 (paOf x)) := by rw [cell_of_row _ _ 7 _ _ _ (heap_alloc_new _ _)]; rfl
      have c8 : (w1.alloc (.cells #[.int .i64 (biOf x), .int .i64 p1, .int .i64 p2, .int .i64 p3, .int .i64 p4, .int .i64 p5, .int .i32 p6, .int .i32 (paOf x), .bool (opOf x)] 31)).cell? ⟨w1.heap.size, 8, none⟩ = some (.bool (opOf x)) := by rw [cell_of_row _ _ 8 _ _ _ (heap_alloc_new _ _)]; rfl
      have hbp : w1.heap.size < (w1.alloc (.cells #[.int .i64 (biOf x), .int .i64 p1, .int .i64 p2, .int .i64 p3, .int .i64 p4, .int .i64 p5, .int .i32 p6, .int .i32 (paOf x), .bool (opOf x)] 31)).heap.size := by simp
      obtain ⟨pa, hpa⟩ : ∃ z, z = paOf x := ⟨_, rfl⟩
      obtain ⟨op, hop⟩ : ∃ z, z = opOf x := ⟨_, rfl⟩
      have HPA := Lib.hid (And.intro hpa hop)
      rw [← hpa, ← hop] at c7 c8 hbelA hstA houtA hbp ⊢
      have HST2 := Lib.hid hstA
      have HOUT2 := Lib.hid houtA
      clear hpa hop hstA houtA HST HOUT hbel
      generalize w1.alloc (.cells #[.int .i64 (biOf x), .int .i64 p1, .int .i64 p2, .int .i64 p3, .int .i64 p4, .int .i64 p5, .int .i32 p6, .int .i32 pa, .bool op] 31) = w2 at *
      generalize w1.heap.size = bp at *
      obtain ⟨_, o9, e9, _, hcy⟩ := (HI2.out.below (hbelA.mono hB)).get (k := k) (x := y) (by rw [HZC.out]; exact HY.out)
      cases e9
      obtain ⟨_, o8, e8, _, hcx2⟩ := (HI.out.below (hbelA.mono hB)).get (k := k) (x := x) (by rw [HZ.out]; exact HX.out)
      cases e8
      have hs2 := hbelA.size
      clear hb1 hs1 hcx
      by_cases hy : y = 14
      · subst hy
        have d1 : ((14 : Int) != 14) = false := by simp
        by_cases hp : pa = 0
        · subst hp
          have d2 : ((0 : Int) == 0) = true := by simp
          go_wp2_with fail
          go_roundw
          case rel => exact ⟨k + 1, m1, m2, q1, q2, pre ++ [x], r, cpre ++ [14], cr, st, out, S1, S2, rfl, rfl, by go_num, by simp [HK.out], by simp [HKC.out], by simp [HZ.out], by simp [HZC.out], HST2.out, HOUT2.out, HAP.out, hm1, by omega, fun p hp => by obtain ⟨a, h1, h2⟩ := HSK.out p hp; exact ⟨a, h1, by omega⟩, by rw [← HT.out, prs, if_pos (.inr HPA.out.1.symm)], hbelA⟩
          case measure => simp [intOf]; omega
        · have d2 : (pa == 0) = false := by simpa using hp
          have HP := Lib.hid hp
          clear hp
          have hlen : st.length = m1 := HST2.out.1
          have HLEN := Lib.hid hlen
          clear hlen
          rcases op with _ | _
          · -- a closing bracket
            have HFO := Lib.hid (fun W (hW : Duo .i64 W w.heap.size 48 S1 m1 q1 st) => found_of_any w.heap.size S1 m1 q1 st pa W hW)
            obtain ⟨tot, htot⟩ : ∃ z, z = seek (stOf st) (canon pa) m1 := ⟨_, rfl⟩
            rw [← htot] at HFO
            have HTOT := Lib.hid htot
            clear htot
            rcases tot with _ | j
            · have HFO2 := Lib.hid (show ∀ W, Duo .i64 W w.heap.size 48 S1 m1 q1 st → Calls Tryd.prog 23 #[.slice S1 m1 q1, .int .i32 pa] W fun e w' => e = .returned (.int .i64 (-1)) ∧ W = w' from HFO.out)
              have hd0 : decide ((0 : Int) ≤ -1) = false := by simp
              go_wp2_with (go_at_call 23; refine (HFO2.out _ HST2.out).mono ?_; rintro e w9 ⟨rfl, rfl⟩)
              go_roundw
              case rel =>
                have hno : seek (stOf st) (canon (paOf x)) (stOf st).length = none := by rw [stOf_length, HLEN.out, ← HPA.out.1, ← HTOT.out]
                exact ⟨k + 1, m1, m2, q1, q2, pre ++ [x], r, cpre ++ [14], cr, st, out, S1, S2, rfl, rfl, by go_num, by simp [HK.out], by simp [HKC.out], by simp [HZ.out], by simp [HZC.out], HST2.out, HOUT2.out, HAP.out, hm1, by omega, fun p hp => by obtain ⟨a, h1, h2⟩ := HSK.out p hp; exact ⟨a, h1, by omega⟩, by
                    rw [← HT.out, prs, if_neg (by rw [← HPA.out.1]; simpa using HP.out), if_neg (by rw [← HPA.out.2]; simp), hno], hbelA⟩
              case measure => simp [intOf]; omega
            · have HFO2 := Lib.hid (show ∀ W, Duo .i64 W w.heap.size 48 S1 m1 q1 st → Calls Tryd.prog 23 #[.slice S1 m1 q1, .int .i32 pa] W fun e w' => e = .returned (.int .i64 (j : Int)) ∧ W = w' from HFO.out)
              have hj := (seek_lt _ _ _ _ HTOT.out.symm).1
              obtain ⟨⟨sa, sr⟩, hsj⟩ : ∃ p, st[j]? = some p := ⟨_, List.getElem?_eq_getElem (by rw [HLEN.out]; exact hj)⟩
              obtain ⟨_, g5, rfl, hg51, hg52, e1, _⟩ := HST2.out.at_ hsj
              have hgd := stOf_get hsj
              have HGD := Lib.hid hgd
              have hd0 : decide ((0 : Int) ≤ (j : Int)) = true := by simp
              have hjq : j ≤ q1 := by omega
              simp only at e1
              clear hgd hsj
              go_wp2_with (first
                | (go_at_call 23; refine (HFO2.out _ HST2.out).mono ?_; rintro e w9 ⟨rfl, rfl⟩)
                | (at_builtin; refine wpList_append_2 _ rfl (.tmp 56) (.tmp 64) 26 rfl w.heap.size 29 .i64 _ Tryd.underlying26 info2 rfl S2 m2 q2 out rfl (HOUT2.out.alloc _) w2.heap.size 1 sa (k : Int) rfl (cell2_lit _ _ _ _ rfl).1 (cell2_lit _ _ _ _ rfl).2 (by omega) (by simp; omega) ?_; intro A3 c3 w3 ho3 hg3 hb3))
              go_roundw
              case rel =>
                have hbn : Below w.heap.size w w3 := (hbelA.alloc (by omega) _).grown hg3 (by simp; omega) (fun g hgg => (HOUT2.out.block g hgg).1)
                have hon := (HST2.out.alloc (.cells #[.int .i64 sa, .int .i64 (k : Int)] 29)).kept hg3 HAP.out
                have hap2 := (HST2.out.alloc (.cells #[.int .i64 sa, .int .i64 (k : Int)] 29)).apart HAP.out hb3
                have hyes : seek (stOf st) (canon (paOf x)) (stOf st).length = some j := by rw [stOf_length, HLEN.out, ← HPA.out.1, ← HTOT.out]
                exact ⟨k + 1, j, m2 + 1, q1, c3, pre ++ [x], r, cpre ++ [14], cr, st.take j, out ++ [(sa, (k : Int))], some ⟨g5, 0, none⟩, A3, rfl, rfl, by go_num, by simp [HK.out], by simp [HKC.out], by simp [HZ.out], by simp [HZC.out], hon.take (by omega), ho3, hap2, by omega, by omega, fun p hp => by obtain ⟨a, h1, h2⟩ := HSK.out p (List.mem_of_mem_take hp); exact ⟨a, h1, by omega⟩, by
                      rw [← HT.out, prs, if_neg (by rw [← HPA.out.1]; simpa using HP.out), if_neg (by rw [← HPA.out.2]; simp), hyes]
                      simp only [HGD.out, stOf_take], hbn⟩
              case measure => simp [intOf]; omega
          · -- an opening bracket
            by_cases h63 : m1 = 63
            · subst h63
              have d3 : ((63 : Int) == 63) = true := by simp
              have hcr : prs 0 [] [] rs cs = out := by
                rw [← HT.out, prs, if_neg (by rw [← HPA.out.1]; simpa using HP.out), if_pos HPA.out.2.symm, if_pos (by rw [stOf_length]; exact HLEN.out)]
              have HTT := Lib.hid hcr
              clear hcr
              go_wp2_with (go_at_call 24; refine (rsorted_any w2 w.heap.size S2 m2 q2 out HOUT2.out hs2 (by omega)).mono ?_; rintro e w5 ⟨rfl, l5, hperm, hpw, hrow, hb5⟩)
              go_ret
              rw [HTT.out]
              have hol : out.length = m2 := HOUT2.out.1
              exact ⟨S2, q2, l5, by rw [hol]; rfl, hperm, hpw, by rw [hol]; exact hrow, hbelA.trans (hb5.mono (Nat.le_refl _))⟩
            · have d3 : ((m1 : Int) == 63) = false := by simp; omega
              have d30 : (m1 == 63) = false := by simpa using h63
              have H63 := Lib.hid h63
              clear h63
              go_wp2_with (first
                | (at_builtin; refine wpList_append_D _ rfl (.tmp 41) (.tmp 48) 46 rfl w.heap.size 48 .i64 _ Tryd.underlying46 infoROpen rfl S1 m1 q1 st rfl (HST2.out.alloc _) w2.heap.size 1 (k : Int) x rfl (cell2_lit _ _ _ _ rfl).1 (cell2_lit _ _ _ _ rfl).2 (by omega) (by simp; omega) ?_; intro A3 c3 w3 ho3 hg3 hb3))
              go_roundw
              case rel =>
                have hbn : Below w.heap.size w w3 := (hbelA.alloc (by omega) _).grown hg3 (by simp; omega) (fun g hgg => (HST2.out.block g hgg).1)
                have hon := (HOUT2.out.alloc (.cells #[.int .i64 (k : Int), .int .i32 x] 48)).kept hg3 HAP.out.symm
                have hap2 := ((HOUT2.out.alloc (.cells #[.int .i64 (k : Int), .int .i32 x] 48)).apart HAP.out.symm hb3).symm
                exact ⟨k + 1, m1 + 1, m2, c3, q2, pre ++ [x], r, cpre ++ [14], cr, st ++ [((k : Int), x)], out, A3, S2, rfl, rfl, by go_num, by simp [HK.out], by simp [HKC.out], by simp [HZ.out], by simp [HZC.out], ho3, hon, hap2, by have := H63.out; omega, by omega, fun p hp => by
                  rcases List.mem_append.1 hp with hp | hp
                  · obtain ⟨a, h1, h2⟩ := HSK.out p hp; exact ⟨a, h1, by omega⟩
                  · simp at hp; subst hp; exact ⟨k, rfl, by omega⟩, by
                  rw [← HT.out, prs, if_neg (by rw [← HPA.out.1]; simpa using HP.out), if_pos HPA.out.2.symm, if_neg (by rw [stOf_length, HLEN.out]; exact H63.out), stOf_append]; rfl, hbn⟩
              case measure => simp [intOf]; omega
      · have d1 : (y != 14) = true := by simpa using hy
        have HYN := Lib.hid hy
        clear hy
        go_wp2_with fail
        go_roundw
        case rel => exact ⟨k + 1, m1, m2, q1, q2, pre ++ [x], r, cpre ++ [y], cr, st, out, S1, S2, rfl, rfl, by go_num, by simp [HK.out], by simp [HKC.out], by simp [HZ.out], by simp [HZC.out], HST2.out, HOUT2.out, HAP.out, hm1, by omega, fun p hp => by obtain ⟨a, h1, h2⟩ := HSK.out p hp; exact ⟨a, h1, by omega⟩, by rw [← HT.out, prs, if_pos (.inl HYN.out)], hbelA⟩
        case measure => simp [intOf]; omega

end Go.Proofs.YtbpaogmnaodcaaaDoor
