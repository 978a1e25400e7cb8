/- The walks of strong, ahead, inside, give. Condition: the solver lies in its block; the classes are a list of the call's own; the table of last signs lies as laid. -/
import Derived.Test.YtbpaogmnaodcaaaDoorQuietB
import Derived.Test.YtbpaogmnaodcaaaDoorKeepP
namespace Go.Proofs.YtbpaogmnaodcaaaDoor
open Go.RowKit

set_option maxHeartbeats 400000 in
theorem strong_any (c : Int) (w : World) : Calls Tryd.prog 38 #[.int .i64 c] w fun e w' => e = .returned (.int .i64 (dirOf c)) ∧ w = w' := by
  by_cases h1 : c = 1
  · subst h1
    go_enter Tryd.func38, Tryd.ntmps38
    go_wp2
    go_ret
    exact ⟨rfl, rfl⟩
  · by_cases h2 : c = 2
    · subst h2
      go_enter Tryd.func38, Tryd.ntmps38
      go_wp2
      go_ret
      exact ⟨rfl, rfl⟩
    · by_cases h4 : c = 4
      · subst h4
        go_enter Tryd.func38, Tryd.ntmps38
        go_wp2
        go_ret
        exact ⟨rfl, rfl⟩
      · by_cases h7 : c = 7
        · subst h7
          go_enter Tryd.func38, Tryd.ntmps38
          go_wp2
          go_ret
          exact ⟨rfl, rfl⟩
        · have hd : dirOf c = 0 := by unfold dirOf; rw [if_neg h1, if_neg (by omega)]
          have e1 : (c == 1) = false := by simpa using h1
          have e2 : (c == 2) = false := by simpa using h2
          have e4 : (c == 4) = false := by simpa using h4
          have e7 : (c == 7) = false := by simpa using h7
          have f1 : ((1 : Int) == c) = false := by simp; omega
          have f2 : ((2 : Int) == c) = false := by simp; omega
          have f4 : ((4 : Int) == c) = false := by simp; omega
          have f7 : ((7 : Int) == c) = false := by simp; omega
          rw [hd]
          clear hd
          go_enter Tryd.func38, Tryd.ntmps38
          go_wp2
          go_ret
          exact ⟨rfl, rfl⟩

set_option maxRecDepth 100000 in
set_option maxHeartbeats 2000000 in
theorem ahead_any (B bs : Nat) (A : Option Addr) (n c a : Nat) (cs : List Int) (so : Int) (w : World) (h : Ints w B A n c cs) (ha : a ≤ n)
    (h1 : w.cell? ⟨bs, 1, none⟩ = some (.slice A n c)) (h3 : w.cell? ⟨bs, 3, none⟩ = some (.int .i64 so)) :
    Calls Tryd.prog 39 #[.pointer (some ⟨bs, 0, none⟩), .int .i64 (a : Int)] w fun e w' => e = .returned (.int .i64 (aheadOf so cs a)) ∧ w = w' := by
  have hcap := h.cap
  have HI := Lib.hid h
  obtain ⟨tot, htot⟩ : ∃ z, z = aheadOf so cs a := ⟨_, rfl⟩
  rw [← htot]
  have HT := Lib.hid htot
  clear htot h
  go_enter Tryd.func39, Tryd.ntmps39
  go_wp2_with fail
  go_loop [5] (fun v5 => ∃ (z : Int) (j : Nat), v5 = .int .i64 z ∧ z = (j : Int) - 1 ∧ j ≤ a ∧ aheadOf so cs j = tot) (fun v5 => (intOf v5 + 1).toNat)
  case atStart => exact ⟨_, a, rfl, rfl, Nat.le_refl _, HT.out.symm⟩
  case round =>
    obtain ⟨z, j, rfl, hzj, hj, hto⟩ := hrel
    rcases j with _ | j
    · have hz1 : z = -1 := by omega
      subst hz1
      have hd0 : decide ((0 : Int) ≤ -1) = false := by simp
      have hso : so = tot := by rw [← hto]; rfl
      subst hso
      clear hto hzj
      go_wp2_with fail
      go_ret
      exact ⟨rfl, rfl⟩
    · have hz1 : z = (j : Int) := by omega
      subst hz1
      have hjn : j < n := by omega
      obtain ⟨b6, o6, x, rfl, _, hx, hcx⟩ := HI.out.at_ hjn
      have hgd : cs.getD j 0 = x := by rw [List.getD_eq_getElem?_getD, hx]; rfl
      have hd0 : decide ((0 : Int) ≤ (j : Int)) = true := by simp
      rw [aheadOf, hgd] at hto
      have HX := Lib.hid hto
      clear hto hgd hx hzj
      by_cases hdx : dirOf x = 0
      · have HS := Lib.hid (show ∀ W, Calls Tryd.prog 38 #[.int .i64 x] W fun e w' => e = .returned (.int .i64 0) ∧ W = w' from fun W => by rw [← hdx]; exact strong_any x W)
        have HDX := Lib.hid hdx
        clear hdx
        go_wp2_with (go_at_call 38; refine (HS.out _).mono ?_; rintro e w9 ⟨rfl, rfl⟩)
        go_round
        case rel => exact ⟨_, j, rfl, by omega, by omega, by rw [← HX.out, if_pos HDX.out]⟩
        case measure => simp [intOf]
      · obtain ⟨d, hd⟩ : ∃ d, d = dirOf x := ⟨_, rfl⟩
        rw [if_neg hdx, ← hd] at HX
        have hdt : d = tot := HX.out
        subst hdt
        have HS := Lib.hid (show ∀ W, Calls Tryd.prog 38 #[.int .i64 x] W fun e w' => e = .returned (.int .i64 d) ∧ W = w' from fun W => by rw [hd]; exact strong_any x W)
        have hd1 : (d != 0) = true := by rw [hd]; simpa using hdx
        clear hdx hd HX HT
        go_wp2_with (go_at_call 38; refine (HS.out _).mono ?_; rintro e w9 ⟨rfl, rfl⟩)
        go_ret
        exact ⟨rfl, rfl⟩

theorem propOf_class (r b : Int) (hb : biOf r = b) (w : World) (h : Lasts w) : Calls Tryd.prog 13 #[.int .i32 r] w fun e w' =>
    ∃ (c k s j d m p : Int) (o : Bool), e = .returned (.agg #[.int .i64 b, .int .i64 c, .int .i64 k, .int .i64 s, .int .i64 j, .int .i64 d, .int .i32 m, .int .i32 p, .bool o]) ∧ Below w.heap.size w w' :=
  (propOf_lit r w h).mono fun _ _ ⟨c, k, s, j, d, m, he, hb'⟩ => ⟨c, k, s, j, d, m, paOf r, opOf r, by rw [he, hb], hb'⟩
theorem Solver.set {w : World} {b g k : Nat} {tv cv : Value} {wy so : Int} (h : Solver w b tv cv wy so) (hne : b ≠ g) (u : Value) : Solver (w.setCell ⟨g, k, none⟩ u) b tv cv wy so :=
  (Below.heap_setCell w ⟨g, k, none⟩ u b hne).trans h
theorem Solver.cells {w : World} {b : Nat} {tv cv : Value} {wy so : Int} (h : Solver w b tv cv wy so) : w.cell? ⟨b, 0, none⟩ = some tv ∧ w.cell? ⟨b, 1, none⟩ = some cv ∧ w.cell? ⟨b, 2, none⟩ = some (.int .i64 wy) ∧ w.cell? ⟨b, 3, none⟩ = some (.int .i64 so) :=
  ⟨by rw [cell_of_row _ _ 0 _ _ _ h]; rfl, by rw [cell_of_row _ _ 1 _ _ _ h]; rfl, by rw [cell_of_row _ _ 2 _ _ _ h]; rfl, by rw [cell_of_row _ _ 3 _ _ _ h]; rfl⟩

/-- but for one row's block all that was there is as it was -/
def Only (A : Option Addr) (w w' : World) : Prop := ∀ k, k < w.heap.size → (∀ a, A = some a → a.block ≠ k) → w'.heap[k]? = w.heap[k]?
theorem Only.refl (A : Option Addr) (w : World) : Only A w w := fun _ _ _ => rfl
theorem Only.set {g k : Nat} {w w' : World} (h : Only (some ⟨g, 0, none⟩) w w') (u : Value) : Only (some ⟨g, 0, none⟩) w (w'.setCell ⟨g, k, none⟩ u) := fun j hj hA =>
  (Below.heap_setCell w' ⟨g, k, none⟩ u j (fun e => hA ⟨g, 0, none⟩ rfl e.symm)).trans (h j hj hA)
theorem Only.below {A : Option Addr} {w w' w'' : World} (h : Only A w w') (hb : Below w'.heap.size w' w'') (hs : w.heap.size ≤ w'.heap.size) : Only A w w'' := fun j hj hA =>
  (hb.block j (by omega)).trans (h j hj hA)
theorem Only.trans {A : Option Addr} {w w' w'' : World} (h : Only A w w') (h2 : Only A w' w'') (hs : w.heap.size ≤ w'.heap.size) : Only A w w'' := fun j hj hA =>
  (h2 j (by omega) hA).trans (h j hj hA)

set_option maxRecDepth 100000 in
set_option maxHeartbeats 2000000 in
theorem give_any (B base bs g : Nat) (A : Option Addr) (n c c3 a : Nat) (rs cs : List Int) (v wy so : Int) (w : World) (h : Runes w B A n c rs) (hBb : B ≤ base) (ho : Own w base 3 (some ⟨g, 0, none⟩) n c3 cs)
    (hsol : Solver w bs (.slice A n c) (.slice (some ⟨g, 0, none⟩) n c3) wy so) (hbb : base ≤ bs) (hne : bs ≠ g) (hpos : 0 < base) (hn : n ≤ 1000) (ha : a < n) (hL : Lasts w) :
    Calls Tryd.prog 29 #[.pointer (some ⟨bs, 0, none⟩), .int .i64 (a : Int), .int .i64 v] w fun e w' => e = .returned (.tuple #[]) ∧
      Own w' base 3 (some ⟨g, 0, none⟩) n c3 (giveOf rs v cs a) ∧ Solver w' bs (.slice A n c) (.slice (some ⟨g, 0, none⟩) n c3) wy so ∧ Below base w w' ∧ Only (some ⟨g, 0, none⟩) w w' := by
  have hcap := h.cap
  have hcap3 := ho.cap
  have hl := h.length
  obtain ⟨tot, htot⟩ : ∃ z, z = giveOf rs v cs a := ⟨_, rfl⟩
  rw [← htot]
  unfold giveOf at htot
  rw [hl] at htot
  obtain ⟨k0, k1, _, _⟩ := hsol.cells
  obtain ⟨_, _, e, hg1, hg2, _, hc, hf⟩ := ho.at_ ha
  cases e
  have hsetO := ho.set (k := a) v
  have hsetS := hsol.set (k := a) hne (.int .i64 v)
  have hsetU : Only (some ⟨g, 0, none⟩) w (w.setCell ⟨g, a, none⟩ (.int .i64 v)) := (Only.refl _ _).set _
  have HSU := Lib.hid hsetU
  have hsetB : Below base w (w.setCell ⟨g, a, none⟩ (.int .i64 v)) := (Below.refl _ _).setCell hg1 _
  have HT := Lib.hid htot
  have HI := Lib.hid h
  have HL := Lib.hid hl
  have HLA := Lib.hid hL
  have HSO := Lib.hid hsetO
  have HSS := Lib.hid hsetS
  have HSB := Lib.hid hsetB
  clear htot h hl hL ho hsol hsetO hsetS hsetB hsetU
  go_enter Tryd.func29, Tryd.ntmps29
  go_wp2_with fail
  generalize w.setCell ⟨g, a, none⟩ (.int .i64 v) = w1 at *
  go_loopw [6] (fun v6 wr => ∃ (i : Nat) (cs' : List Int), v6 = .int .i64 (i : Int) ∧ i ≤ n ∧ giveFrom rs v (n - i) cs' i = tot ∧ Own wr base 3 (some ⟨g, 0, none⟩) n c3 cs' ∧ Solver wr bs (.slice A n c) (.slice (some ⟨g, 0, none⟩) n c3) wy so ∧ Below base w wr ∧ Only (some ⟨g, 0, none⟩) w wr) (fun v6 _ => n - (intOf v6).toNat)
  case atStart => exact ⟨a + 1, _, by go_num, by omega, HT.out.symm, HSO.out, HSS.out, HSB.out, HSU.out⟩
  case round =>
    obtain ⟨i, cs', rfl, hi, hto, how, hsr, hbel, hon⟩ := hrel
    have hsz := hbel.size
    obtain ⟨r0, r1, _, _⟩ := hsr.cells
    by_cases hlt : i < n
    · obtain ⟨x, hx⟩ : ∃ x, rs[i]? = some x := ⟨_, List.getElem?_eq_getElem (by rw [HL.out]; exact hlt)⟩
      have hgd : rs.getD i 0 = x := by rw [List.getD_eq_getElem?_getD, hx]; rfl
      obtain ⟨b, o, rfl, hbb2, hcx⟩ := (HI.out.below (hbel.mono hBb)).get hx
      have HLW := Lib.hid (HLA.out.below hbel hpos)
      rw [show n - i = (n - (i + 1)) + 1 by omega, giveFrom, hgd] at hto
      have HX := Lib.hid hto
      have HOW := Lib.hid how
      have HSR := Lib.hid hsr
      have HB := Lib.hid hbel
      have HON := Lib.hid hon
      obtain ⟨y, hy⟩ : ∃ y, y = biOf x := ⟨_, rfl⟩
      have hpr := fun W hl => propOf_class x y hy.symm W hl
      have HPR := Lib.hid hpr
      have f0 : ∀ (W : World) (p1 p2 p3 p4 p5 p6 p7 p8 : Int) (o : Bool), Sem.run Tryd.prog (Instr.field 31 (.agg #[.int .i64 p1, .int .i64 p2, .int .i64 p3, .int .i64 p4, .int .i64 p5, .int .i64 p6, .int .i32 p7, .int .i32 p8, .bool o]) 0) W = Result.ok (.int .i64 p1) W := fun _ _ _ _ _ _ _ _ _ _ => by kernel_rfl
      have hbs : bs < wr.heap.size := World.block_lt_of_cell? wr _ r1
      have hgw : g < wr.heap.size := by omega
      rw [← hy] at HX
      clear hto hx hgd hpr hy how hsr hbel hon
      by_cases h9 : y = 9
      · subst h9
        have d9 : ((9 : Int) == 9) = true := by simp
        have hlt' : i < rs.length ∧ (9 : Int) = 9 := ⟨by rw [HL.out]; exact hlt, rfl⟩
        rw [if_pos hlt'] at HX
        clear hlt'
        go_wp2_with (go_at_call 13; refine (HPR.out _ HLW.out).mono ?_; rintro e w2 ⟨p1, p2, p3, p4, p5, p6, p7, p8, rfl, hb2⟩; have q1 := ((hb2.cell (p := ⟨bs, 1, none⟩) hbs).trans r1); have HO2 := Lib.hid (HOW.out.below hb2 (Nat.le_refl _)); have HS2 := Lib.hid (HSR.out.below hb2 hbs); have HB2 := Lib.hid (HB.out.trans (hb2.mono (by omega))); have HON2 := Lib.hid (HON.out.below hb2 (by omega)); obtain ⟨_, _, e9, _, _, _, hc2, hf2⟩ := HO2.out.at_ hlt; cases e9)
        go_roundw
        case rel => exact ⟨i + 1, _, by go_num, by omega, HX.out, HO2.out.set v, HS2.out.set hne _, HB2.out.setCell hg1 _, HON2.out.set _⟩
        case measure => simp [intOf]; omega
      · have d9 : (y == 9) = false := by simpa using h9
        have hno : ¬ (i < rs.length ∧ y = 9) := fun h => h9 h.2
        rw [if_neg hno] at HX
        clear h9 hno
        go_wp2_with (go_at_call 13; refine (HPR.out _ HLW.out).mono ?_; rintro e w2 ⟨p1, p2, p3, p4, p5, p6, p7, p8, rfl, hb2⟩; have HO2 := Lib.hid (HOW.out.below hb2 (Nat.le_refl _)); have HS2 := Lib.hid (HSR.out.below hb2 hbs); have HB2 := Lib.hid (HB.out.trans (hb2.mono (by omega))); have HON2 := Lib.hid (HON.out.below hb2 (by omega)))
        go_end0
        exact ⟨rfl, by rw [← HX.out]; exact HO2.out, HS2.out, HB2.out, HON2.out⟩
    · have hin : i = n := by omega
      subst hin
      have d1 : decide ((i : Int) < (i : Int)) = false := by simp
      have d2 : ¬ i < i := Nat.lt_irrefl i
      have hto' : cs' = tot := by rw [← hto, Nat.sub_self]; rfl
      have HOW := Lib.hid how
      have HSR := Lib.hid hsr
      have HB := Lib.hid hbel
      have HON := Lib.hid hon
      clear hto how hsr hbel hon
      go_wp2_with fail
      go_end0
      exact ⟨rfl, by rw [← hto']; exact HOW.out, HSR.out, HB.out, HON.out⟩

end Go.Proofs.YtbpaogmnaodcaaaDoor
