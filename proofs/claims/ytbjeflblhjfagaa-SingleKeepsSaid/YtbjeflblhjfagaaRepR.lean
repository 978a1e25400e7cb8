/- The walk of the reference's Replace of one glyph. Condition: at most a thousand glyphs, a hundred put in. Printed by wip/tools/g27u.py. -/
import Derived.Test.YtbjeflblhjfagaaRepP
namespace Go.Proofs.Ytbjeflblhjfagaa
open Go.RowKit

theorem putG_snoc (g : Gl) (ids : List Int) (j : Nat) (h : j < ids.length) : putG g (ids.take (j + 1)) = putG g (ids.take j) ++ [putOne g (ids.getD j 0)] := by
  unfold putG
  rw [← take_succ_getD h, List.map_append]
  rfl
theorem RetGls.n {w w' : World} {base n : Nat} {gs : List Gl} {e : Ending} (h : RetGls w base gs e w') (hn : gs.length = n) : ∃ A c, e = .returned (.slice A n c) ∧ GRow w' base A n c gs ∧ Below base w w' := by
  subst hn
  exact h
set_option maxRecDepth 100000 in
set_option maxHeartbeats 4000000 in
theorem rreplace_any (B B2 p n c m ci : Nat) (A Ai : Option Addr) (gs : List Gl) (ids : List Int) (w : World) (h : GlsR w B A n c gs) (hid : Ints w B2 Ai m ci ids) (hp : p < n) (hn : n ≤ 1000) (hm : m ≤ 100) (hB : B ≤ w.heap.size) :
    Calls Try.prog 29 #[.slice A n c, .int .i64 (p : Int), .int .i64 1, .slice Ai m ci] w (RetGls w w.heap.size (repG gs p ids)) := by
  obtain ⟨b, o, g, rfl, hbb, hg, c0, c1, c2, c3', c4, c5, c6, c7, c8', c9⟩ := h.at_ hp
  have hcap := h.cap
  have hcapi := hid.cap
  have y0 := up_fact c0
  have y1 := up_fact c1
  have y2 := up_fact c2
  have y3 := up_fact c3'
  have y4 := up_fact c4
  have y5 := up_fact c5
  have y6 := up_fact c6
  have y7 := up_fact c7
  have y8 := up_fact c8'
  have y9 := up_fact c9
  have HI := Lib.hid h
  have HID := Lib.hid hid
  have HGL := Lib.hid h.length
  have HIL := Lib.hid hid.length
  have HONE := Lib.hid (h.one hp hg)
  have HFRONT := Lib.hid (h.front (k := p) (by omega))
  have HG := Lib.hid hg
  have hA := Below.refl w.heap.size w
  have hlp : (gs.take p).length = p := by rw [List.length_take, h.length]; omega
  have HLP := Lib.hid hlp
  clear h hid hg hlp c0 c1 c2 c3' c4 c5 c6 c7 c8' c9
  have q1 : decide ((p : Int) < 0) = false := by simp
  have q2 : decide ((n : Int) < (p : Int)) = false := by simp; omega
  have q2' : decide (n < p) = false := by simp; omega
  have hw1 : IntKind.i64.wrap ((n : Int) - (p : Int)) = ((n - p : Nat) : Int) := by rw [IntKind.wrap_i64]; omega
  have q3 : decide (((n - p : Nat) : Int) < 1) = false := by simp; omega
  have q3' : decide (n - p < 1) = false := by simp; omega
  have hw2 : IntKind.i64.wrap ((p : Int) + 1) = (p : Int) + 1 := by rw [IntKind.wrap_i64]; omega
  have ht1 : ((p : Int) + 1).toNat = p + 1 := by omega
  have hb0 : (0 : Int) ≤ (p : Int) + 1 := by omega
  have hb1 : (p : Int) ≤ (p : Int) + 1 := by omega
  have hb2 : (p : Int) + 1 ≤ (c : Int) := by omega
  have hb3 : (p : Int) + 1 ≤ (n : Int) := by omega
  have hb4 : (p : Int) ≤ (c : Int) := by omega
  have hcp : ¬ (c = p) := by omega
  have hc00 : ¬ (c = 0) := by omega
  go_enter Try.func29, Try.ntmps29
  go_upto_region 4 with (go_at_call 42; refine (rleast_any B _ _ g _ HONE.out).mono ?_; rintro e w1 ⟨rfl, hb⟩; have hA := bgo hA hb; clear hb)
  go_upto_region 5 with (go_at_call 41; refine ((copied_any B _ _ _ (gs.take p) _ (HFRONT.out.below (hA.mono hB)) (by omega)).mono (fun _ _ h => h.n HLP.out)).mono ?_; rintro e w2 ⟨A2, c2, rfl, ho, hb⟩; have HO2 := Lib.hid (ho.more hA.size); have hA := bgo hA hb; clear hb ho)
  go_wp2_with fail
  go_loopw [10, 11] (fun v10 v wr => ∃ (j L : Nat) (A3 : Option Addr) (c3 : Nat), v10 = .slice A3 L c3 ∧ v = .int .i64 (j : Int) ∧ j ≤ m ∧ Hid (L = p + j) ∧ Hid (GRow wr w.heap.size A3 L c3 (gs.take p ++ putG g (ids.take j))) ∧ Below w.heap.size w wr) (fun _ v _ => m - (intOf v).toNat)
  case atStart => exact ⟨0, p, A2, c2, rfl, rfl, Nat.zero_le _, rfl, (show GRow _ _ _ _ _ (gs.take p ++ putG g (ids.take 0)) by rw [List.take_zero]; show GRow _ _ _ _ _ (gs.take p ++ []); rw [List.append_nil]; exact HO2.out), hA⟩
  case round =>
    clear hA
    obtain ⟨j, L, A3, c3, rfl, rfl, hj, HL, HO, hA⟩ := hrel
    have hcap3 := HO.out.cap
    by_cases hlj : j < m
    · obtain ⟨b6, o6, rfl, hbb6, hcy⟩ := HID.out.getD hlj
      obtain ⟨x, hx⟩ : ∃ x, x = ids.getD j 0 := ⟨_, rfl⟩
      rw [← hx] at hcy
      have z6 := up_fact hcy
      have HX := Lib.hid hx
      clear hcy hx
      go_upto_region 9 with (go_at_call 43; refine (rfresh_any x g.cl _).mono ?_; rintro e w9 ⟨rfl, hb⟩; have hA9 := bgo hA hb; have HO9 := Lib.hid (HO.out.below hb (Nat.le_refl _)); clear hb)
      obtain ⟨w4, hw4⟩ : ∃ z, z = w9.alloc (.cells #[.int .i64 x, .int .i64 g.cl, .int .i64 0, .int .i64 0, .int .i64 0, .int .i64 (-1), .int .i64 (-1), .int .i64 0, .int .i64 0, .int .i64 0] 49) := ⟨_, rfl⟩
      obtain ⟨bx, hbx⟩ : ∃ z, z = w9.heap.size := ⟨_, rfl⟩
      rw [← hw4, ← hbx]
      have hX4 : w4.heap[bx]? = some (.cells #[.int .i64 x, .int .i64 g.cl, .int .i64 0, .int .i64 0, .int .i64 0, .int .i64 (-1), .int .i64 (-1), .int .i64 0, .int .i64 0, .int .i64 0] 49 (0, 0)) := by rw [hw4, hbx]; exact heap_alloc_new _ _
      have hA4 : Below w.heap.size w w4 := by rw [hw4]; exact hA9.alloc hA9.size _
      have hbw : w.heap.size ≤ bx := by rw [hbx]; exact hA9.size
      have HO4 : Hid (GRow w4 w.heap.size A3 L c3 (gs.take p ++ putG g (ids.take j))) := by rw [hw4]; exact HO9.out.alloc _
      have hfar : ∀ a, A3 = some a → a.block ≠ bx := fun a ha => by
        have h1 := (HO9.out.block a.block (by rw [ha]; rfl)).2
        omega
      have HFAR := Lib.hid hfar
      clear hw4 hbx hfar
      have xf4 := (show w4.cell? ⟨bx, 9, none⟩ = some (.int .i64 0) by rw [cell_of_row _ _ 9 _ _ _ hX4]; rfl)
      have fr4 := (show w4.frozen? ⟨bx, 9, none⟩ = false from frozen_of_row _ _ _ _ _ hX4)
      go_upto_region 10 with (fail)
      obtain ⟨w5, hw5⟩ : ∃ z, z = w4.setCell ⟨bx, 9, none⟩ (.int .i64 g.ma) := ⟨_, rfl⟩
      rw [← hw5]
      have hX5 : w5.heap[bx]? = some (.cells #[.int .i64 x, .int .i64 g.cl, .int .i64 0, .int .i64 0, .int .i64 0, .int .i64 (-1), .int .i64 (-1), .int .i64 0, .int .i64 0, .int .i64 g.ma] 49 (0, 0)) := by rw [hw5]; exact heap_setCell_same w4 bx 9 _ _ _ hX4
      have hA5 : Below w.heap.size w w5 := by rw [hw5]; exact hA4.setCell (p := ⟨bx, 9, none⟩) hbw _
      have HO5 : Hid (GRow w5 w.heap.size A3 L c3 (gs.take p ++ putG g (ids.take j))) := by rw [hw5]; exact HO4.out.far HFAR.out _
      clear hw5 xf4 fr4 hX4 hA4 HO4
      have xf5 := (show w5.cell? ⟨bx, 7, none⟩ = some (.int .i64 0) by rw [cell_of_row _ _ 7 _ _ _ hX5]; rfl)
      have fr5 := (show w5.frozen? ⟨bx, 7, none⟩ = false from frozen_of_row _ _ _ _ _ hX5)
      go_upto_region 11 with (fail)
      obtain ⟨w6, hw6⟩ : ∃ z, z = w5.setCell ⟨bx, 7, none⟩ (.int .i64 g.li) := ⟨_, rfl⟩
      rw [← hw6]
      have hX6 : w6.heap[bx]? = some (.cells #[.int .i64 x, .int .i64 g.cl, .int .i64 0, .int .i64 0, .int .i64 0, .int .i64 (-1), .int .i64 (-1), .int .i64 g.li, .int .i64 0, .int .i64 g.ma] 49 (0, 0)) := by rw [hw6]; exact heap_setCell_same w5 bx 7 _ _ _ hX5
      have hA6 : Below w.heap.size w w6 := by rw [hw6]; exact hA5.setCell (p := ⟨bx, 7, none⟩) hbw _
      have HO6 : Hid (GRow w6 w.heap.size A3 L c3 (gs.take p ++ putG g (ids.take j))) := by rw [hw6]; exact HO5.out.far HFAR.out _
      clear hw6 xf5 fr5 hX5 hA5 HO5
      have xf6 := (show w6.cell? ⟨bx, 8, none⟩ = some (.int .i64 0) by rw [cell_of_row _ _ 8 _ _ _ hX6]; rfl)
      have fr6 := (show w6.frozen? ⟨bx, 8, none⟩ = false from frozen_of_row _ _ _ _ _ hX6)
      go_upto_region 12 with (fail)
      obtain ⟨w7, hw7⟩ : ∃ z, z = w6.setCell ⟨bx, 8, none⟩ (.int .i64 g.co) := ⟨_, rfl⟩
      rw [← hw7]
      have hX7 : w7.heap[bx]? = some (.cells #[.int .i64 x, .int .i64 g.cl, .int .i64 0, .int .i64 0, .int .i64 0, .int .i64 (-1), .int .i64 (-1), .int .i64 g.li, .int .i64 g.co, .int .i64 g.ma] 49 (0, 0)) := by rw [hw7]; exact heap_setCell_same w6 bx 8 _ _ _ hX6
      have hA7 : Below w.heap.size w w7 := by rw [hw7]; exact hA6.setCell (p := ⟨bx, 8, none⟩) hbw _
      have HO7 : Hid (GRow w7 w.heap.size A3 L c3 (gs.take p ++ putG g (ids.take j))) := by rw [hw7]; exact HO6.out.far HFAR.out _
      clear hw7 xf6 fr6 hX6 hA6 HO6
      have xg0 := (show w7.cell? ⟨bx, 0, none⟩ = some (.int .i64 x) by rw [cell_of_row _ _ 0 _ _ _ hX7]; rfl)
      have xg1 := (show w7.cell? ⟨bx, 1, none⟩ = some (.int .i64 g.cl) by rw [cell_of_row _ _ 1 _ _ _ hX7]; rfl)
      have xg2 := (show w7.cell? ⟨bx, 2, none⟩ = some (.int .i64 0) by rw [cell_of_row _ _ 2 _ _ _ hX7]; rfl)
      have xg3 := (show w7.cell? ⟨bx, 3, none⟩ = some (.int .i64 0) by rw [cell_of_row _ _ 3 _ _ _ hX7]; rfl)
      have xg4 := (show w7.cell? ⟨bx, 4, none⟩ = some (.int .i64 0) by rw [cell_of_row _ _ 4 _ _ _ hX7]; rfl)
      have xg5 := (show w7.cell? ⟨bx, 5, none⟩ = some (.int .i64 (-1)) by rw [cell_of_row _ _ 5 _ _ _ hX7]; rfl)
      have xg6 := (show w7.cell? ⟨bx, 6, none⟩ = some (.int .i64 (-1)) by rw [cell_of_row _ _ 6 _ _ _ hX7]; rfl)
      have xg7 := (show w7.cell? ⟨bx, 7, none⟩ = some (.int .i64 g.li) by rw [cell_of_row _ _ 7 _ _ _ hX7]; rfl)
      have xg8 := (show w7.cell? ⟨bx, 8, none⟩ = some (.int .i64 g.co) by rw [cell_of_row _ _ 8 _ _ _ hX7]; rfl)
      have xg9 := (show w7.cell? ⟨bx, 9, none⟩ = some (.int .i64 g.ma) by rw [cell_of_row _ _ 9 _ _ _ hX7]; rfl)
      have hsz7 := hA7.size
      have hL11 : L ≤ 1100 := by have := HL.out; omega
      go_wp2_with (first
        | (at_builtin; refine wpList_append_gls _ rfl (.tmp 78) (.tmp 80) 42 rfl w.heap.size _ Try.underlying42 infoGl rfl A3 L c3 (gs.take p ++ putG g (ids.take j)) rfl (HO7.out.alloc _) (w7.heap.size + 1) (some ⟨w7.heap.size, 0, none⟩) 1 1 [putOne g x] rfl (GlsR.lit w7 (putOne g x)) (by omega) (by simp; omega) ?_; intro A4 c4 w8 ho4 hg4 _ _))
      have hA8 := gl_below (hA7.alloc hsz7 (.cells #[.int .i64 (putOne g x).id, .int .i64 (putOne g x).cl, .int .i64 (putOne g x).ad, .int .i64 (putOne g x).dx, .int .i64 (putOne g x).dy, .int .i64 (putOne g x).tw, .int .i64 (putOne g x).hg, .int .i64 (putOne g x).li, .int .i64 (putOne g x).co, .int .i64 (putOne g x).ma] 49)) (by simp; omega) hg4 (HO7.out.alloc _) (Nat.le_refl _)
      have HO8 := Lib.hid (show GRow w8 w.heap.size A4 (L + 1) c4 (gs.take p ++ putG g (ids.take (j + 1))) by
        rw [putG_snoc g ids j (by rw [HIL.out]; exact hlj), ← HX.out, ← List.append_assoc]
        exact ho4)
      clear ho4 hg4
      go_roundw
      case rel => exact ⟨j + 1, L + 1, A4, c4, rfl, by go_num, by omega, (show L + 1 = p + (j + 1) by have := HL.out; omega), HO8, hA8⟩
      case measure => simp [intOf] <;> omega
    · obtain rfl : j = m := by omega
      have hz : ¬ j < j := Nat.lt_irrefl _
      have hL11 : L ≤ 1100 := by have := HL.out; omega
      have hszr := hA.size
      have HIDS := Lib.hid (show ids.take j = ids from List.take_of_length_le (Nat.le_of_eq HIL.out))
      have HTAIL := Lib.hid (show ∃ A9 c9, GlsR w B A9 (n - (p + 1)) c9 (gs.drop (p + 1)) ∧ (if c = p + 1 then (A9 = some ⟨b, o, none⟩ ∧ c9 = 0) else (A9 = some ⟨b, o + (p + 1) * 10, none⟩ ∧ c9 = c - (p + 1))) by
        by_cases hc1 : c = p + 1
        · have e1 : n - (p + 1) = 0 := by omega
          have e2 : gs.drop (p + 1) = [] := List.drop_of_length_le (by rw [HGL.out]; omega)
          refine ⟨_, _, ?_, by rw [if_pos hc1]; exact ⟨rfl, rfl⟩⟩
          rw [e1, e2]
          exact GlsR.zero (by unfold maxLen; omega)
        · exact ⟨_, _, HI.out.back (k := p + 1) (by omega), by rw [if_neg hc1]; exact ⟨rfl, rfl⟩⟩)
      obtain ⟨A9, c9, HT, hif⟩ := HTAIL.out
      have HT := Lib.hid HT
      by_cases hc1 : c = p + 1
      · rw [if_pos hc1] at hif
        obtain ⟨rfl, rfl⟩ := hif
        go_upto_region 15 with (first
          | (at_builtin; refine wpList_append_gls _ rfl (.tmp 84) (.tmp 89) 42 rfl w.heap.size _ Try.underlying42 infoGl rfl A3 L c3 (gs.take p ++ putG g (ids.take j)) rfl HO.out B _ _ _ (gs.drop (p + 1)) rfl (HT.out.below (hA.mono hB)) (by omega) hszr ?_; intro A8 c8 w8 ho8 hg8 _ _))
        have hA8 := gl_below hA hszr hg8 HO.out (Nat.le_refl _)
        obtain ⟨L2, hL2⟩ : ∃ z, z = L + (n - (p + 1)) := ⟨_, rfl⟩
        rw [← hL2] at ho8 ⊢
        obtain ⟨out, hout⟩ : ∃ z, z = outG gs p g ids := ⟨_, rfl⟩
        have HOUT := Lib.hid hout
        have HO8 := Lib.hid (show GRow w8 w.heap.size A8 L2 c8 out by
          rw [hout]
          unfold outG
          rw [HIDS.out] at ho8
          exact ho8)
        have HLL := Lib.hid (show L2 = p + j + (n - (p + 1)) by have := HL.out; omega)
        have hcap8 := HO8.out.cap
        clear ho8 hg8 hL2 hout HO
        by_cases hm0 : j = 0
        · subst hm0
          have HREP := Lib.hid (show repG gs p ids = fixG out p g.cl by rw [repG_of HG.out, if_pos HIL.out, HOUT.out])
          have hLp : L = p := by have := HL.out; omega
          subst hLp
          by_cases hpl : L < L2
          · obtain ⟨b7, g7, e7, hb71, _, hg7, hc7, _⟩ := HO8.out.at_ hpl
            subst e7
            have HG7 := Lib.hid hg7
            clear hg7
            by_cases hlt7 : g.cl < g7.cl
            · have s1 : decide (g.cl < g7.cl) = true := by simpa using hlt7
              have HLT := Lib.hid hlt7
              clear hlt7
              go_wp2_with fail
              go_loopw [13] (fun v wr => ∃ j : Nat, v = .int .i64 (j : Int) ∧ L ≤ j ∧ j ≤ L2 ∧ Hid (GRow wr w.heap.size (some ⟨b7, 0, none⟩) L2 c8 (stage out L j g.cl)) ∧ Hid (∀ t x, L ≤ t → t < j → out[t]? = some x → x.cl = g7.cl) ∧ Below w.heap.size w wr) (fun v _ => L2 - (intOf v).toNat)
              case atStart => exact ⟨L, rfl, Nat.le_refl _, by omega, (show GRow _ _ _ _ _ (stage out L L g.cl) by rw [stage_start]; exact HO8.out), (fun t x h1 h2 => by omega), hA8⟩
              case round =>
                obtain ⟨j, rfl, hj1, hj2, HOJ, HALL, hA9⟩ := hrel
                have HOL := Lib.hid (HO8.out.1)
                by_cases hlj : j < L2
                · have hjo : j < out.length := by rw [HOL.out]; exact hlj
                  obtain ⟨b9, g9, e9, hb91, _, hg9, hc9, hf9⟩ := HOJ.out.at_ hlj
                  cases e9
                  have hgo : g9 = out[j] := by
                    rw [stage_at hj1 hjo, List.getElem?_append_right (by rw [stage_prefix hj1 hjo]; exact Nat.le_refl _), stage_prefix hj1 hjo, Nat.sub_self] at hg9
                    rw [List.getElem?_cons_zero] at hg9
                    exact (Option.some.inj hg9).symm
                  have HGO := Lib.hid hgo
                  clear hgo hg9
                  by_cases hxw : g9.cl = g7.cl
                  · have r1 : (g9.cl == g7.cl) = true := by simpa using hxw
                    have HXW := Lib.hid hxw
                    have hput := GRow.put (k := j) (b := b7) (by rw [← stage_at hj1 hjo]; exact HOJ.out) (stage_prefix hj1 hjo) g.cl
                    rw [stage_next hj1 hjo] at hput
                    have HPUT := Lib.hid hput
                    have hA10 := hA9.setCell (p := ⟨b7, j * 10 + 1, none⟩) hb91 (.int .i64 g.cl)
                    clear hxw hput
                    go_wp2_with fail
                    go_roundw
                    case rel => exact ⟨j + 1, by go_num, by omega, by omega, HPUT, (fun t x h1 h2 h3 => by
                      rcases Nat.lt_or_ge t j with h4 | h4
                      · exact HALL.out t x h1 h4 h3
                      · have : t = j := by omega
                        subst this
                        rw [List.getElem?_eq_getElem hjo] at h3
                        cases h3
                        rw [← HGO.out]; exact HXW.out), hA10⟩
                    case measure => simp [intOf] <;> omega
                  · have r1 : (g9.cl == g7.cl) = false := by simpa using hxw
                    have HXW := Lib.hid hxw
                    clear hxw
                    go_wp2_with fail
                    go_ret
                    have hse := stage_end (c := g.cl) HG7.out rfl HLT.out hj1 HALL.out (fun x h3 => by
                      rw [List.getElem?_eq_getElem hjo] at h3
                      cases h3
                      rw [← HGO.out]; exact HXW.out)
                    have hlen : (repG gs L ids).length = L2 := by rw [HREP.out, hse, stage_length hj1 (Nat.le_of_lt hjo)]; exact HOL.out
                    exact ⟨_, _, by rw [hlen]; rfl, by rw [hlen, HREP.out, hse]; exact HOJ.out, hA9⟩
                · obtain rfl : j = L2 := by omega
                  have hz9 : ¬ j < j := Nat.lt_irrefl _
                  go_wp2_with fail
                  go_ret
                  have hse := stage_end (c := g.cl) HG7.out rfl HLT.out hj1 HALL.out (fun x h3 => by rw [List.getElem?_eq_none (by rw [HOL.out]; exact Nat.le_refl _)] at h3; cases h3)
                  have hlen : (repG gs L ids).length = j := by rw [HREP.out, hse, stage_length hj1 (by rw [HOL.out]; exact Nat.le_refl _)]; exact HOL.out
                  exact ⟨_, _, by rw [hlen]; rfl, by rw [hlen, HREP.out, hse]; exact HOJ.out, hA9⟩
            · have s1 : decide (g.cl < g7.cl) = false := by simpa using hlt7
              have HLT := Lib.hid hlt7
              clear hlt7
              go_wp2_with fail
              go_ret
              have hrr : repG gs L ids = out := by rw [HREP.out, fixG_no HG7.out (by have := HLT.out; omega)]
              have hlen : (repG gs L ids).length = L2 := by rw [hrr]; exact HO8.out.1
              exact ⟨_, _, by rw [hlen]; rfl, by rw [hlen, hrr]; exact HO8.out, hA8⟩
          · have s0 : decide ((L : Int) < (L2 : Int)) = false := by simp; omega
            have s00 : decide (L < L2) = false := by simp; omega
            have HPL := Lib.hid hpl
            clear hpl
            go_wp2_with fail
            go_ret
            have hrr : repG gs L ids = out := by rw [HREP.out, fixG_none (by rw [HO8.out.1]; have := HPL.out; omega)]
            have hlen : (repG gs L ids).length = L2 := by rw [hrr]; exact HO8.out.1
            exact ⟨_, _, by rw [hlen]; rfl, by rw [hlen, hrr]; exact HO8.out, hA8⟩
        · have s0 : ((j : Int) == 0) = false := by simp; omega
          have s00 : (j == 0) = false := by simpa using hm0
          have HM0 := Lib.hid hm0
          clear hm0
          go_wp2_with fail
          go_ret
          have hrr : repG gs p ids = out := by rw [repG_of HG.out, if_neg (by rw [HIL.out]; exact HM0.out), HOUT.out]
          have hlen : (repG gs p ids).length = L2 := by rw [hrr]; exact HO8.out.1
          exact ⟨_, _, by rw [hlen]; rfl, by rw [hlen, hrr]; exact HO8.out, hA8⟩
      · rw [if_neg hc1] at hif
        obtain ⟨rfl, rfl⟩ := hif
        go_upto_region 15 with (first
          | (at_builtin; refine wpList_append_gls _ rfl (.tmp 84) (.tmp 89) 42 rfl w.heap.size _ Try.underlying42 infoGl rfl A3 L c3 (gs.take p ++ putG g (ids.take j)) rfl HO.out B _ _ _ (gs.drop (p + 1)) rfl (HT.out.below (hA.mono hB)) (by omega) hszr ?_; intro A8 c8 w8 ho8 hg8 _ _))
        have hA8 := gl_below hA hszr hg8 HO.out (Nat.le_refl _)
        obtain ⟨L2, hL2⟩ : ∃ z, z = L + (n - (p + 1)) := ⟨_, rfl⟩
        rw [← hL2] at ho8 ⊢
        obtain ⟨out, hout⟩ : ∃ z, z = outG gs p g ids := ⟨_, rfl⟩
        have HOUT := Lib.hid hout
        have HO8 := Lib.hid (show GRow w8 w.heap.size A8 L2 c8 out by
          rw [hout]
          unfold outG
          rw [HIDS.out] at ho8
          exact ho8)
        have HLL := Lib.hid (show L2 = p + j + (n - (p + 1)) by have := HL.out; omega)
        have hcap8 := HO8.out.cap
        clear ho8 hg8 hL2 hout HO
        by_cases hm0 : j = 0
        · subst hm0
          have HREP := Lib.hid (show repG gs p ids = fixG out p g.cl by rw [repG_of HG.out, if_pos HIL.out, HOUT.out])
          have hLp : L = p := by have := HL.out; omega
          subst hLp
          by_cases hpl : L < L2
          · obtain ⟨b7, g7, e7, hb71, _, hg7, hc7, _⟩ := HO8.out.at_ hpl
            subst e7
            have HG7 := Lib.hid hg7
            clear hg7
            by_cases hlt7 : g.cl < g7.cl
            · have s1 : decide (g.cl < g7.cl) = true := by simpa using hlt7
              have HLT := Lib.hid hlt7
              clear hlt7
              go_wp2_with fail
              go_loopw [13] (fun v wr => ∃ j : Nat, v = .int .i64 (j : Int) ∧ L ≤ j ∧ j ≤ L2 ∧ Hid (GRow wr w.heap.size (some ⟨b7, 0, none⟩) L2 c8 (stage out L j g.cl)) ∧ Hid (∀ t x, L ≤ t → t < j → out[t]? = some x → x.cl = g7.cl) ∧ Below w.heap.size w wr) (fun v _ => L2 - (intOf v).toNat)
              case atStart => exact ⟨L, rfl, Nat.le_refl _, by omega, (show GRow _ _ _ _ _ (stage out L L g.cl) by rw [stage_start]; exact HO8.out), (fun t x h1 h2 => by omega), hA8⟩
              case round =>
                obtain ⟨j, rfl, hj1, hj2, HOJ, HALL, hA9⟩ := hrel
                have HOL := Lib.hid (HO8.out.1)
                by_cases hlj : j < L2
                · have hjo : j < out.length := by rw [HOL.out]; exact hlj
                  obtain ⟨b9, g9, e9, hb91, _, hg9, hc9, hf9⟩ := HOJ.out.at_ hlj
                  cases e9
                  have hgo : g9 = out[j] := by
                    rw [stage_at hj1 hjo, List.getElem?_append_right (by rw [stage_prefix hj1 hjo]; exact Nat.le_refl _), stage_prefix hj1 hjo, Nat.sub_self] at hg9
                    rw [List.getElem?_cons_zero] at hg9
                    exact (Option.some.inj hg9).symm
                  have HGO := Lib.hid hgo
                  clear hgo hg9
                  by_cases hxw : g9.cl = g7.cl
                  · have r1 : (g9.cl == g7.cl) = true := by simpa using hxw
                    have HXW := Lib.hid hxw
                    have hput := GRow.put (k := j) (b := b7) (by rw [← stage_at hj1 hjo]; exact HOJ.out) (stage_prefix hj1 hjo) g.cl
                    rw [stage_next hj1 hjo] at hput
                    have HPUT := Lib.hid hput
                    have hA10 := hA9.setCell (p := ⟨b7, j * 10 + 1, none⟩) hb91 (.int .i64 g.cl)
                    clear hxw hput
                    go_wp2_with fail
                    go_roundw
                    case rel => exact ⟨j + 1, by go_num, by omega, by omega, HPUT, (fun t x h1 h2 h3 => by
                      rcases Nat.lt_or_ge t j with h4 | h4
                      · exact HALL.out t x h1 h4 h3
                      · have : t = j := by omega
                        subst this
                        rw [List.getElem?_eq_getElem hjo] at h3
                        cases h3
                        rw [← HGO.out]; exact HXW.out), hA10⟩
                    case measure => simp [intOf] <;> omega
                  · have r1 : (g9.cl == g7.cl) = false := by simpa using hxw
                    have HXW := Lib.hid hxw
                    clear hxw
                    go_wp2_with fail
                    go_ret
                    have hse := stage_end (c := g.cl) HG7.out rfl HLT.out hj1 HALL.out (fun x h3 => by
                      rw [List.getElem?_eq_getElem hjo] at h3
                      cases h3
                      rw [← HGO.out]; exact HXW.out)
                    have hlen : (repG gs L ids).length = L2 := by rw [HREP.out, hse, stage_length hj1 (Nat.le_of_lt hjo)]; exact HOL.out
                    exact ⟨_, _, by rw [hlen]; rfl, by rw [hlen, HREP.out, hse]; exact HOJ.out, hA9⟩
                · obtain rfl : j = L2 := by omega
                  have hz9 : ¬ j < j := Nat.lt_irrefl _
                  go_wp2_with fail
                  go_ret
                  have hse := stage_end (c := g.cl) HG7.out rfl HLT.out hj1 HALL.out (fun x h3 => by rw [List.getElem?_eq_none (by rw [HOL.out]; exact Nat.le_refl _)] at h3; cases h3)
                  have hlen : (repG gs L ids).length = j := by rw [HREP.out, hse, stage_length hj1 (by rw [HOL.out]; exact Nat.le_refl _)]; exact HOL.out
                  exact ⟨_, _, by rw [hlen]; rfl, by rw [hlen, HREP.out, hse]; exact HOJ.out, hA9⟩
            · have s1 : decide (g.cl < g7.cl) = false := by simpa using hlt7
              have HLT := Lib.hid hlt7
              clear hlt7
              go_wp2_with fail
              go_ret
              have hrr : repG gs L ids = out := by rw [HREP.out, fixG_no HG7.out (by have := HLT.out; omega)]
              have hlen : (repG gs L ids).length = L2 := by rw [hrr]; exact HO8.out.1
              exact ⟨_, _, by rw [hlen]; rfl, by rw [hlen, hrr]; exact HO8.out, hA8⟩
          · have s0 : decide ((L : Int) < (L2 : Int)) = false := by simp; omega
            have s00 : decide (L < L2) = false := by simp; omega
            have HPL := Lib.hid hpl
            clear hpl
            go_wp2_with fail
            go_ret
            have hrr : repG gs L ids = out := by rw [HREP.out, fixG_none (by rw [HO8.out.1]; have := HPL.out; omega)]
            have hlen : (repG gs L ids).length = L2 := by rw [hrr]; exact HO8.out.1
            exact ⟨_, _, by rw [hlen]; rfl, by rw [hlen, hrr]; exact HO8.out, hA8⟩
        · have s0 : ((j : Int) == 0) = false := by simp; omega
          have s00 : (j == 0) = false := by simpa using hm0
          have HM0 := Lib.hid hm0
          clear hm0
          go_wp2_with fail
          go_ret
          have hrr : repG gs p ids = out := by rw [repG_of HG.out, if_neg (by rw [HIL.out]; exact HM0.out), HOUT.out]
          have hlen : (repG gs p ids).length = L2 := by rw [hrr]; exact HO8.out.1
          exact ⟨_, _, by rw [hlen]; rfl, by rw [hlen, hrr]; exact HO8.out, hA8⟩

end Go.Proofs.Ytbjeflblhjfagaa
