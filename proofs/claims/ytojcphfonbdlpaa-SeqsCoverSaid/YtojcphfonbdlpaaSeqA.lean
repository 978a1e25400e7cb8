/- The walk of runs: the level runs, by places, in memory of the call's own; nothing that was there turns. Condition: two lists of one length, at most a thousand. -/
import Derived.Test.YtojcphfonbdlpaaGrid
import Derived.Test.YtojcphfonbdlpaaSqPlain
import Derived.Test.YtojcphfonbdlpaaRight
import Derived.BigQuiet
namespace Go.Proofs.Ytojcphfonbdlpaa
open Go.RowKit

theorem infoRow : (Try.prog.info? 22).map (fun i => (i.zero, i.size, i.bytes)) = some (some (.slice none 0 0), 1, 24) := by kernel_rfl

/-- What a call leaves that hands back a list of lists of its own. -/
def RetGrid (w : World) (zss : List (List Int)) (e : Ending) (w' : World) : Prop :=
  ∃ A c rs, e = .returned (.slice A zss.length c) ∧ rs.map Rw.zs = zss ∧ Grid w' w.heap.size 22 3 A zss.length c rs ∧ Below w.heap.size w w'

/-- Up to a place the runs are made. -/
def RunsRel (w0 : World) (n : Nat) (cs ls : List Int) (total : List (List Int)) (v l i : Value) (wr : World) : Prop :=
  ∃ (k m lst : Nat) (last was : Int) (pre r plv rlv : List Int) (A : Option Addr) (c : Nat) (rs : List Rw), i = .int .i64 (k : Int) ∧ v = .slice A m c ∧ l = .int .i64 last ∧ pre.length = k ∧ plv.length = k ∧ cs = pre ++ r ∧ ls = plv ++ rlv ∧
    Grid wr w0.heap.size 22 3 A m c rs ∧ m ≤ k ∧ (∀ q ∈ rs, q.zs.length ≤ k) ∧ (rs ≠ [] → last = (lst : Int) ∧ lst < n ∧ ls[lst]? = some was) ∧ Sq.runsF k (rs.map Rw.zs) was r rlv = total ∧ Below w0.heap.size w0 wr

theorem cell_lit (w : World) (u : Value) (e : TypeId) {b : Nat} (hb : b = w.heap.size) : (w.alloc (.cells #[u] e)).cell? ⟨b, 0, none⟩ = some u := by
  subst hb
  rw [cell_of_row _ _ 0 _ _ _ (heap_alloc_new w (.cells #[u] e))]; rfl

/-- a new row, out of a literal, and its value appended -/
theorem Grid.pushed {w w3 : World} {base : Nat} {A A' : Option Addr} {m c c' : Nat} {rs : List Rw} {x : Int} (h : Grid w base 22 3 A m c rs) (hb : base ≤ w.heap.size) {u : Value}
    (ho : w3.ownsRow base 22 1 (.slice A' (m + 1) c') (m + 1) (rs.map Rw.v ++ [.slice (some ⟨w.heap.size, 0, none⟩) 1 1])) (hg : ((w.alloc (.cells #[.int .i64 x] 3)).alloc (.cells #[u] 22)).grownBy w3 (Value.slice A m c).ownBlock)
    (hbl : (Value.slice A' (m + 1) c').ownBlock = (Value.slice A m c).ownBlock ∨ (Value.slice A' (m + 1) c').ownBlock = some ((w.alloc (.cells #[.int .i64 x] 3)).alloc (.cells #[u] 22)).heap.size) :
    Grid w3 base 22 3 A' (m + 1) c' (rs ++ [Rw.mk w.heap.size 1 [x]]) := by
  refine Grid.push (r := Rw.mk w.heap.size 1 [x]) ((h.alloc _).alloc _) ?_ (fun q hq => (h.row_lt hq).2) ?_ ho hg hbl
  · exact (Own.lit w [x] _ 3 hb (by unfold maxLen; simp) rfl rfl).alloc _
  · rintro a rfl
    exact (h.block a.block (by simp [Value.ownBlock])).2

/-- where the last row's value lies, behind an append to that row -/
theorem Grid.outer {w w' : World} {base : Nat} {eo ei : TypeId} {g n c k : Nat} {rs : List Rw} {r : Rw} (h : Grid w base eo ei (some ⟨g, 0, none⟩) n c (rs ++ [r])) (hk : rs.length = k) (hg : w.grownBy w' (some r.g)) :
    w'.cell? ⟨g, k, none⟩ = some (.slice (some ⟨r.g, 0, none⟩) r.zs.length r.c) ∧ w'.frozen? ⟨g, k, none⟩ = false := by
  have h1 : w'.ownsRow base eo 1 (.slice (some ⟨g, 0, none⟩) n c) n ((rs ++ [r]).map Rw.v) := World.ownsRow.kept h.1 hg (.inr (by have : r.g ≠ g := h.2.2.2 _ rfl r (by simp); simp [Value.ownBlock]; omega))
  have hl := h.length
  subst hk
  exact ⟨by rw [World.ownsRow.cellAt h1 rs.length (by simp at hl; omega)]; simp [Rw.v], World.ownsRow.frozenAt h1 _⟩

set_option maxHeartbeats 4000000 in
theorem runs_any (B : Nat) (A A2 : Option Addr) (n c c2 : Nat) (cs ls : List Int) (w : World) (h : Ints w B A n c cs) (h2 : Ints w B A2 n c2 ls) (hB : B ≤ w.heap.size) (hn : n ≤ 1000) :
    Calls Try.prog 27 #[.slice A n c, .slice A2 n c2] w (RetGrid w (Sq.runs cs ls)) := by
  have hcap := h.cap
  have hcap2 := h2.cap
  have hl := h.length
  have hl2 := h2.length
  have HI := Lib.hid h
  have HI2 := Lib.hid h2
  clear h h2
  go_enter Try.func27, Try.ntmps27
  go_wp2_with fail
  go_loopw [5, 6, 12] (fun v l i wr => RunsRel w n cs ls (Sq.runs cs ls) v l i wr) (fun _ _ i _ => n - (intOf i).toNat)
  case atStart => exact ⟨0, 0, 0, -1, 0, [], cs, [], ls, none, 0, [], rfl, rfl, rfl, rfl, rfl, rfl, rfl, Grid.nil_ _ _ _ _, Nat.le_refl _, by simp, by simp, rfl, Below.refl _ _⟩
  case round =>
    obtain ⟨k, m, lst, last, was, pre, r, plv, rlv, Ao, co, rs, rfl, rfl, rfl, hk, hkl, hz, hzl, hg, hmk, hrl, hlast, htot, hbel⟩ := hrel
    have hs := hbel.size
    have hgc := hg.cap
    have hgl := hg.length
    rcases r with _ | ⟨x, r⟩
    · have hge : n ≤ k := by rw [hz] at hl; simp at hl; omega
      have hle : k ≤ n := by rw [hz] at hl; simp at hl; omega
      have HG := Lib.hid hg
      have HT := Lib.hid htot
      have HL := Lib.hid hgl
      clear hz hzl hk hkl hl hl2 hg htot hlast hrl hgl
      go_wp2_with fail
      go_ret
      have ht := HT.out
      simp only [Sq.runsF] at ht
      have hm : (Sq.runs cs ls).length = m := by rw [← ht, List.length_map, HL.out]
      exact ⟨Ao, co, rs, by rw [hm]; rfl, ht, by rw [hm]; exact HG.out, hbel⟩
    · rcases rlv with _ | ⟨y, rlv⟩
      · exfalso; rw [hz] at hl; rw [hzl] at hl2; simp at hl hl2; omega
      have hlt : k < n := by rw [hz] at hl; simp at hl; omega
      obtain ⟨b, of, rfl, hbb, hcx⟩ := (HI.out.below (hbel.mono hB)).get (k := k) (x := x) (by rw [hz, ← hk]; simp)
      obtain ⟨b2, of2, rfl, hbb2, hcy⟩ := (HI2.out.below (hbel.mono hB)).get (k := k) (x := y) (by rw [hzl, ← hkl]; simp)
      have HZ := Lib.hid hz
      have HZL := Lib.hid hzl
      have HK := Lib.hid hk
      have HKL := Lib.hid hkl
      have HG := Lib.hid hg
      have HT := Lib.hid htot
      have HRL := Lib.hid hrl
      have HLA := Lib.hid hlast
      have HGL := Lib.hid hgl
      clear hz hzl hk hkl hl hl2 hg htot hlast hrl hgl
      rcases hrm : Lv.removed x with _ | _
      case true =>
        have HR := Lib.hid hrm
        clear hrm
        go_wp2_with (go_at_call 41; refine (removed_any x true HR.out _).mono ?_; rintro e w3 ⟨rfl, rfl⟩)
        go_roundw
        case rel => exact ⟨k + 1, m, lst, last, was, pre ++ [x], r, plv ++ [y], rlv, Ao, co, rs, by go_num, rfl, rfl, by simp [HK.out], by simp [HKL.out], by simp [HZ.out], by simp [HZL.out], HG.out, by omega, fun q hq => by have := HRL.out q hq; omega, HLA.out, by rw [← HT.out, Sq.runsF_out HR.out], hbel⟩
        case measure => simp [intOf]; omega
      have HR := Lib.hid hrm
      clear hrm
      rcases List.eq_nil_or_concat rs with hrs | ⟨rs', q, hrs⟩
      · have hm0 : m = 0 := by rw [← HGL.out, hrs]; rfl
        subst hm0
        have d0 : decide ((0 : Int) ≤ -1) = false := by simp
        have HRS := Lib.hid hrs
        clear hrs
        go_wp2_with (go_at_call 41; refine (removed_any x false HR.out _).mono ?_; rintro e w3 ⟨rfl, rfl⟩)
        go_quiet (fail)
        go_wp2_with (first
          | (at_builtin; refine wpList_append_val _ rfl (.tmp 45) (.tmp 48) 56 rfl w.heap.size 22 Try.underlying56 infoRow Ao 0 co (rs.map Rw.v) rfl (by exact (((HG.out.drewN nq).alloc _).alloc _).1) (wr.heap.size + 1) 1 (.slice (some ⟨wr.heap.size, 0, none⟩) 1 1) rfl (cell_lit _ _ _ (by simp)) rfl (by omega) (by simp; omega) ?_; intro A3 c3 w3 ho3 hg3 hb3))
        go_roundw
        case rel =>
          have hgn := Grid.pushed (HG.out.drewN nq) (by exact hs) ho3 hg3 hb3
          have hbn : Below w.heap.size w w3 := (((below_drewN hbel nq).alloc (by exact hs) _).alloc (by simp; omega) _).grown hg3 (by simp; omega) (fun g hgg => (HG.out.block g hgg).1)
          exact ⟨k + 1, 0 + 1, k, (k : Int), y, pre ++ [x], r, plv ++ [y], rlv, A3, c3, rs ++ [Rw.mk wr.heap.size 1 [(k : Int)]], by go_num, rfl, rfl, by simp [HK.out], by simp [HKL.out], by simp [HZ.out], by simp [HZL.out], hgn, by omega, fun q hq => by
            simp at hq
            rcases hq with hq | rfl
            · have := HRL.out q hq; omega
            · simp, fun _ => ⟨rfl, hlt, by rw [HZL.out, ← HKL.out]; simp⟩, by rw [← HT.out, Sq.runsF_new HR.out (.inl (by simp [HRS.out]))]; simp, hbn⟩
        case measure => simp [intOf]; omega
      · rw [List.concat_eq_append] at hrs
        obtain ⟨m', hm'⟩ : ∃ m', m' = rs'.length := ⟨_, rfl⟩
        have hmm : m = m' + 1 := by rw [← HGL.out, hrs, hm']; simp
        subst hmm
        obtain ⟨hla1, hla2, hla3⟩ := HLA.out (by rw [hrs]; simp)
        subst hla1
        obtain ⟨b3, of3, e3, _, hcw⟩ := (HI2.out.below (hbel.mono hB)).get hla3
        cases e3
        have hgq : Grid wr w.heap.size 22 3 Ao (m' + 1) co (rs' ++ [q]) := by rw [← hrs]; exact HG.out
        obtain ⟨hmlt, go, rfl, hgo1, hgo2, hgoc, hgof⟩ := hgq.at_ (k := m') (r := q) (by rw [hm']; simp)
        have hoq := hgq.own (k := m') (r := q) (by rw [hm']; simp)
        have hql := HRL.out q (by rw [hrs]; simp)
        have hqc := hoq.cap
        have d0 : decide ((0 : Int) ≤ (m' : Int)) = true := by simp
        have HRS := Lib.hid hrs
        have HQ := Lib.hid hoq
        have HM := Lib.hid hm'
        have HGQ := Lib.hid hgq
        clear hrs hm' hgq hoq hla3
        by_cases hwy : was = y
        · subst hwy
          have d1 : (was == was) = true := by simp
          go_wp2_with (go_at_call 41; refine (removed_any x false HR.out _).mono ?_; rintro e w3 ⟨rfl, rfl⟩)
          go_quiet (fail)
          go_wp2_with (first
            | (at_builtin; refine wpList_append_ints _ rfl (.tmp 40) (.tmp 42) 22 rfl w.heap.size 3 Try.underlying22 Try.infoInt (some ⟨q.g, 0, none⟩) q.zs.length q.c q.zs rfl ((HQ.out.drewN nq).alloc _) (wr.heap.size + 1) (some ⟨wr.heap.size, 0, none⟩) 1 1 [(k : Int)] rfl (Ints.lit_at _ [(k : Int)] _ _ (by omega) rfl rfl (by simp)) (by omega) (by simp; omega) ?_; intro A3 c3 w3 ho3 hg3 hb3; obtain ⟨hl3, g3, rfl, hg31, hg32, _, _⟩ := ho3.last; obtain ⟨hoc, hof⟩ := Grid.outer ((HGQ.out.drewN nq).alloc (.cells #[.int .i64 (k : Int)] 3)) HM.out.symm hg3))
          go_roundw
          case rel =>
            have hgn := Grid.grow ((HGQ.out.drewN nq).alloc (.cells #[.int .i64 (k : Int)] 3)) HM.out.symm ho3 hg3 (by simpa [Value.ownBlock] using hb3)
            have hbn : Below w.heap.size w w3 := ((below_drewN hbel nq).alloc (by exact hs) _).grown hg3 (by simp; omega) (fun g hgg => by have := Own.block HQ.out g hgg; omega)
            exact ⟨k + 1, m' + 1, k, (k : Int), was, pre ++ [x], r, plv ++ [was], rlv, _, co, rs' ++ [Rw.mk g3 c3 (q.zs ++ [(k : Int)])], by go_num, rfl, rfl, by simp [HK.out], by simp [HKL.out], by simp [HZ.out], by simp [HZL.out], hgn, by omega, fun q' hq' => by
              simp at hq'
              rcases hq' with hq' | rfl
              · have := HRL.out q' (by rw [HRS.out]; simp [hq']); omega
              · simp; omega, fun _ => ⟨rfl, hlt, by rw [HZL.out, ← HKL.out]; simp⟩, by
              rw [← HT.out, HRS.out]
              simp only [List.map_append, List.map_cons, List.map_nil]
              rw [Sq.runsF_on HR.out], hbn.setCell hgo1 _⟩
          case measure => simp [intOf]; omega
        · have d1 : (was == y) = false := by simpa using hwy
          have HW := Lib.hid hwy
          clear hwy
          go_wp2_with (go_at_call 41; refine (removed_any x false HR.out _).mono ?_; rintro e w3 ⟨rfl, rfl⟩)
          go_quiet (fail)
          go_wp2_with (first
            | (at_builtin; refine wpList_append_val _ rfl (.tmp 45) (.tmp 48) 56 rfl w.heap.size 22 Try.underlying56 infoRow (some ⟨go, 0, none⟩) (m' + 1) co (rs.map Rw.v) rfl (by exact (((HG.out.drewN nq).alloc _).alloc _).1) (wr.heap.size + 1) 1 (.slice (some ⟨wr.heap.size, 0, none⟩) 1 1) rfl (cell_lit _ _ _ (by simp)) rfl (by omega) (by simp; omega) ?_; intro A3 c3 w3 ho3 hg3 hb3))
          go_roundw
          case rel =>
            have hgn := Grid.pushed (HG.out.drewN nq) (by exact hs) ho3 hg3 hb3
            have hbn : Below w.heap.size w w3 := (((below_drewN hbel nq).alloc (by exact hs) _).alloc (by simp; omega) _).grown hg3 (by simp; omega) (fun g hgg => (HG.out.block g hgg).1)
            exact ⟨k + 1, m' + 1 + 1, k, (k : Int), y, pre ++ [x], r, plv ++ [y], rlv, A3, c3, rs ++ [Rw.mk wr.heap.size 1 [(k : Int)]], by go_num, rfl, rfl, by simp [HK.out], by simp [HKL.out], by simp [HZ.out], by simp [HZL.out], hgn, by omega, fun q hq => by
              simp at hq
              rcases hq with hq | rfl
              · have := HRL.out q hq; omega
              · simp, fun _ => ⟨rfl, hlt, by rw [HZL.out, ← HKL.out]; simp⟩, by rw [← HT.out, Sq.runsF_new HR.out (.inr HW.out)]; simp, hbn⟩
          case measure => simp [intOf]; omega

end Go.Proofs.Ytojcphfonbdlpaa
