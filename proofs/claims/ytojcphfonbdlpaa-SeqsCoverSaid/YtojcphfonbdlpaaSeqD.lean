/- The walk of the reference's runs. Condition: two lists of one length, at most a thousand. -/
import Derived.Test.YtojcphfonbdlpaaSeqC
import Derived.Deep.RegionLaw
import Derived.Laws.BitsLemmas
namespace Go.Proofs.Ytojcphfonbdlpaa.Sq
open Lv (removed)
/-- the level runs out of the kept places -/
def runsK (ls : List Int) : List (List Int) → Int → List Int → List (List Int)
  | rs, _, [] => rs
  | rs, was, p :: ps => if rs ≠ [] ∧ was = ls.getD p.toNat 0 then runsK ls (add rs p) (ls.getD p.toNat 0) ps else runsK ls (rs ++ [[p]]) (ls.getD p.toNat 0) ps
theorem runsF_kept : ∀ (r rlv plv : List Int) (i : Nat) (rs : List (List Int)) (was : Int), plv.length = i → r.length = rlv.length → runsF i rs was r rlv = runsK (plv ++ rlv) rs was (keptF i r)
  | [], rlv, plv, i, rs, was, _, _ => by simp [runsF, keptF, runsK]
  | c :: r, [], plv, i, rs, was, _, h => by simp at h
  | c :: r, l :: rlv, plv, i, rs, was, hp, h => by
    have ih := fun rs was => runsF_kept r rlv (plv ++ [l]) (i + 1) rs was (by simp [hp]) (by simpa using h)
    simp only [List.append_assoc, List.singleton_append] at ih
    have hg : (plv ++ l :: rlv).getD ((i : Int)).toNat 0 = l := by simp [List.getD_eq_getElem?_getD, ← hp]
    by_cases hr : removed c = true
    · rw [runsF_out hr, ih, keptF, if_pos hr]
    · rw [runsF, if_neg hr, keptF, if_neg hr, runsK, hg, ih, ih]
theorem keptF_mem : ∀ (i : Nat) (cs : List Int) (p : Int), p ∈ keptF i cs → ∃ j : Nat, p = (j : Int) ∧ j < i + cs.length
  | _, [], p, h => by simp [keptF] at h
  | i, c :: cs, p, h => by
    unfold keptF at h
    split at h
    · obtain ⟨j, h1, h2⟩ := keptF_mem (i + 1) cs p h
      exact ⟨j, h1, by simp; omega⟩
    · simp at h
      rcases h with rfl | h
      · exact ⟨i, rfl, by simp⟩
      · obtain ⟨j, h1, h2⟩ := keptF_mem (i + 1) cs p h
        exact ⟨j, h1, by simp; omega⟩
theorem runsK_on {ls : List Int} {rs : List (List Int)} {r : List Int} {p was : Int} {ps : List Int} (h : ls[p.toNat]? = some was) : runsK ls (rs ++ [r]) was (p :: ps) = runsK ls (rs ++ [r ++ [p]]) was ps := by
  rw [runsK]; simp [List.getD_eq_getElem?_getD, h, add_concat]
theorem runsK_new {ls : List Int} {rs : List (List Int)} {p was y : Int} {ps : List Int} (h : ls[p.toNat]? = some y) (hn : rs = [] ∨ was ≠ y) : runsK ls rs was (p :: ps) = runsK ls (rs ++ [[p]]) y ps := by
  have hg : ls.getD p.toNat 0 = y := by simp [List.getD_eq_getElem?_getD, h]
  rw [runsK, hg, if_neg]
  rcases hn with rfl | hn
  · simp
  · simp [hn]
end Go.Proofs.Ytojcphfonbdlpaa.Sq
namespace Go.Proofs.Ytojcphfonbdlpaa
open Go.RowKit

/-- append of one int that lies in a literal, in a region that draws its order -/
theorem step_append_int {P : Program} {ops : Array Oper} {o : Oper} {a : Act} {w : World} {K : Act → World → Prop} {Q : Exit → Act → World → Prop} {X : Prop}
    (hg : o.guard = none) (s x : Operand) (t : TypeId) (hop : o.op = Op.call { callee := Callee.builtin Builtin.append, args := #[s, x], argTypes := #[t, t] })
    (base : Nat) (e : TypeId) (hts : P.underlying t = some (.slice e)) (hi : (P.info? e).map (fun i => (i.zero, i.size, i.bytes)) = some (some (.int .i64 0), 1, 8))
    (A : Option Addr) (n c : Nat) (zs : List Int) (hs : a.eval s = .slice A n c) (hown : Own w base e A n c zs)
    (b c2 : Nat) (y : Int) (hx : a.eval x = .slice (some ⟨b, 0, none⟩) 1 c2) (hu : w.cell? ⟨b, 0, none⟩ = some (.int .i64 y))
    (hn : n ≤ 1000000) (hbase : base ≤ w.heap.size)
    (hK : ∀ A' c' w', Own w' base e A' (n + 1) c' (zs ++ [y]) → w.grownBy w' (Value.slice A n c).ownBlock → ((Value.slice A' (n + 1) c').ownBlock = (Value.slice A n c).ownBlock ∨ (Value.slice A' (n + 1) c').ownBlock = some w.heap.size) → K (a.put o.dst (.slice A' (n + 1) c')) w') :
    if Region.wanted o (yielded ops a.tmps) = true then Oper.wp P o a w K Q else X := by
  have hw : Region.wanted o (yielded ops a.tmps) = true := by simp [Region.wanted, hg]
  rw [if_pos hw]
  obtain ⟨i, hi0, hz, hsz, hby⟩ := info_parts hi
  obtain ⟨v', w', hrun, h2, h3, _, h5⟩ := run_append_own_at (P := P) w base t o.type e i (.int .i64 0) 1 8 hts hi0 hz hsz hby rfl (by omega) _ n (cellsOf zs) hown ⟨b, 0, none⟩ 1 c2 [.int .i64 y] rfl
    (by
      intro j z hy
      match j, hy with
      | 0, hy => simp at hy; subst hy; exact hu
      | j + 1, hy => simp at hy)
    (by intro z hz; simp at hz; subst hz; rfl) (by unfold maxLen; omega) (by omega) hbase
  obtain ⟨A', c', rfl⟩ := own_form h2
  unfold Oper.wp execOp
  simp only [hop, resolve, invoke, builtin, Sem.run_bind, Sem.run_pure, Result.andThen_ok, List.map_toArray, List.map_cons, List.map_nil, hs, hx, hrun]
  exact hK A' c' w' (by have := h2; simpa [Own, cellsOf] using this) h3 h5

theorem Grid.drew {w : World} {base : Nat} {eo ei : TypeId} {A : Option Addr} {n c : Nat} {rs : List Rw} (h : Grid w base eo ei A n c rs) : Grid w.drew base eo ei A n c rs := h

/-- Up to a place the runs are made of the kept ones. -/
def RRunsRel (w1 : World) (ks ls : List Int) (total : List (List Int)) (v i : Value) (wr : World) : Prop :=
  ∃ (k m : Nat) (was : Int) (pre r : List Int) (A : Option Addr) (c : Nat) (rs : List Rw), i = .int .i64 (k : Int) ∧ v = .slice A m c ∧ pre.length = k ∧ ks = pre ++ r ∧
    Grid wr w1.heap.size 22 3 A m c rs ∧ m ≤ k ∧ (∀ q ∈ rs, q.zs.length ≤ k) ∧ (pre = [] → rs = []) ∧ (∀ p' p, pre = p' ++ [p] → rs ≠ [] ∧ ls[p.toNat]? = some was) ∧ Sq.runsK ls (rs.map Rw.zs) was r = total ∧ Below w1.heap.size w1 wr

set_option maxHeartbeats 4000000 in
theorem rruns_any (B : Nat) (A A2 : Option Addr) (n c c2 : Nat) (cs ls : List Int) (w : World) (h : Ints w B A n c cs) (h2 : Ints w B A2 n c2 ls) (hB : B ≤ w.heap.size) (hn : n ≤ 1000) :
    Calls Try.prog 32 #[.slice A n c, .slice A2 n c2] w (RetGrid w (Sq.runs cs ls)) := by
  have hcap := h.cap
  have hcap2 := h2.cap
  have hl := h.length
  have hl2 := h2.length
  have hrk : Sq.runs cs ls = Sq.runsK ls [] 0 (Sq.keptF 0 cs) := Sq.runsF_kept cs ls [] 0 [] 0 rfl (by omega)
  have hmem : ∀ p ∈ Sq.keptF 0 cs, ∃ j : Nat, p = (j : Int) ∧ j < n := fun p hp => by obtain ⟨j, h1, h2⟩ := Sq.keptF_mem 0 cs p hp; exact ⟨j, h1, by omega⟩
  have hkl := Sq.keptF_length 0 cs
  rw [hl] at hkl
  have HI2 := Lib.hid h2
  have HRK := Lib.hid hrk
  have HM := Lib.hid hmem
  have HL2 := Lib.hid hl2
  clear h2 hl hl2 hrk hmem
  obtain ⟨mk, hmk0⟩ : ∃ mk, mk = (Sq.keptF 0 cs).length := ⟨_, rfl⟩
  go_enter Try.func32, Try.ntmps32
  go_wp2_with fail
  refine (kept_any B A n c cs _ h hB hn).mono ?_
  rintro e w1 ⟨Ak, ck, rfl, hok, hb1⟩
  rw [← hmk0] at hok hkl ⊢
  obtain ⟨ks, hks⟩ : ∃ ks, ks = Sq.keptF 0 cs := ⟨_, rfl⟩
  rw [← hks] at hok hmk0
  have HKS := Lib.hid hks
  have hkc := hok.cap
  have HKI := Lib.hid hok.ints
  have HMK := Lib.hid hmk0
  have hs1 := hb1.size
  have HI3 := Lib.hid (HI2.out.below (hb1.mono hB))
  clear h hok hks hmk0 HI2
  go_wp2_with fail
  go_loopw [5, 7] (fun v i wr => RRunsRel w1 ks ls (Sq.runs cs ls) v i wr) (fun _ i _ => mk - (intOf i).toNat)
  case atStart => exact ⟨0, 0, 0, [], ks, none, 0, [], rfl, rfl, rfl, rfl, Grid.nil_ _ _ _ _, Nat.le_refl _, by simp, by simp, by simp, by rw [HRK.out, HKS.out]; rfl, Below.refl _ _⟩
  case round =>
    obtain ⟨k, m, was, pre, r, Ao, co, rs, rfl, rfl, hk, hz, hg, hmk, hrl, hp0, hp1, htot, hbel⟩ := hrel
    have hs := hbel.size
    have hgc := hg.cap
    have hgl := hg.length
    rcases r with _ | ⟨p, r⟩
    · have hge : mk ≤ k := by have := HMK.out; rw [hz] at this; simp at this; omega
      have HG := Lib.hid hg
      have HT := Lib.hid htot
      have HL := Lib.hid hgl
      clear hz hk hg htot hrl hgl hp0 hp1
      go_wp2_with fail
      go_ret
      have ht := HT.out
      simp only [Sq.runsK] at ht
      have hm : (Sq.runs cs ls).length = m := by rw [← ht, List.length_map, HL.out]
      exact ⟨Ao, co, rs, by rw [hm]; rfl, ht, by rw [hm]; exact HG.out.more hs1, hb1.trans (hbel.mono hs1)⟩
    · have hlt : k < mk := by have := HMK.out; rw [hz] at this; simp at this; omega
      obtain ⟨j, rfl, hjn⟩ := HM.out p (by rw [← HKS.out, hz]; simp)
      have hy : ls[j]? = some (ls[j]'(by rw [HL2.out]; exact hjn)) := List.getElem?_eq_getElem _
      obtain ⟨y, hyy⟩ : ∃ y, y = ls[j]'(by rw [HL2.out]; exact hjn) := ⟨_, rfl⟩
      rw [← hyy] at hy
      obtain ⟨b, of, rfl, hbb, hcx⟩ := (HKI.out.below hbel).get (k := k) (x := (j : Int)) (by rw [hz, ← hk]; simp)
      obtain ⟨b2, of2, rfl, hbb2, hcy⟩ := (HI3.out.below (hbel.mono (by omega))).get (k := j) (x := y) hy
      have HZ := Lib.hid hz
      have HK := Lib.hid hk
      have HG := Lib.hid hg
      have HT := Lib.hid htot
      have HRL := Lib.hid hrl
      have HGL := Lib.hid hgl
      have HY := Lib.hid hy
      clear hz hg htot hrl hgl hyy hy
      rcases List.eq_nil_or_concat pre with hpre | ⟨pre', p0, hpre⟩
      · have hk0 : k = 0 := by rw [← hk, hpre]; rfl
        have hrs := hp0 hpre
        have hm0 : m = 0 := by rw [← HGL.out, hrs]; rfl
        have HRS := Lib.hid hrs
        subst hm0 hk0
        have HPN := Lib.hid hpre
        clear hrs hpre hk hp0 hp1
        simp only [Nat.add_zero] at hcx
        go_wp2_with fail
        go_quiet (fail)
        go_wp2_with (first
          | (at_builtin; refine wpList_append_val _ rfl (.tmp 53) (.tmp 59) 56 rfl w1.heap.size 22 Try.underlying56 infoRow Ao 0 co (rs.map Rw.v) rfl (by exact (((HG.out.drewN nq).alloc _).alloc _).1) (wr.heap.size + 1) 1 (.slice (some ⟨wr.heap.size, 0, none⟩) 1 1) rfl (cell_lit _ _ _ (by simp)) rfl (by omega) (by simp; omega) ?_; intro A3 c3 w3 ho3 hg3 hb3))
        go_roundw
        case rel =>
          have hgn := Grid.pushed (x := (j : Int)) (HG.out.drewN nq) (by exact hs) ho3 hg3 hb3
          have hbn : Below w1.heap.size w1 w3 := (((below_drewN hbel nq).alloc (by exact hs) _).alloc (by simp; omega) _).grown hg3 (by simp; omega) (fun g hgg => (HG.out.block g hgg).1)
          exact ⟨0 + 1, 0 + 1, y, pre ++ [(j : Int)], r, A3, c3, rs ++ [Rw.mk wr.heap.size 1 [(j : Int)]], by go_num, rfl, by simp [HK.out], by simp [HZ.out], hgn, by omega, fun q hq => by
            simp at hq
            rcases hq with hq | rfl
            · have := HRL.out q hq; omega
            · simp, by simp, fun p' p hp => by
            have := List.append_inj_right' hp rfl
            simp at this
            subst this
            exact ⟨by simp, HY.out⟩, by rw [← HT.out, Sq.runsK_new (y := y) (by exact HY.out) (.inl (by simp [HRS.out]))]; simp, hbn⟩
        case measure => simp [intOf]; omega
      · rw [List.concat_eq_append] at hpre
        obtain ⟨hrn, hlw⟩ := hp1 _ _ hpre
        rcases List.eq_nil_or_concat rs with hrs | ⟨rs', q, hrs⟩
        · exact absurd hrs hrn
        rw [List.concat_eq_append] at hrs
        obtain ⟨j0, rfl, hj0⟩ := HM.out p0 (by rw [← HKS.out, HZ.out, hpre]; simp)
        obtain ⟨k', hk'⟩ : ∃ k', k' = pre'.length := ⟨_, rfl⟩
        have hkk : k = k' + 1 := by rw [← hk, hpre, hk']; simp
        subst hkk
        obtain ⟨b4, of4, e4, _, hcp⟩ := (HKI.out.below hbel).get (k := k') (x := (j0 : Int)) (by rw [HZ.out, hpre, hk']; simp)
        cases e4
        obtain ⟨b3, of3, e3, _, hcw⟩ := (HI3.out.below (hbel.mono (by omega))).get (k := j0) (x := was) hlw
        cases e3
        obtain ⟨m', hm'⟩ : ∃ m', m' = rs'.length := ⟨_, rfl⟩
        have hmm : m = m' + 1 := by rw [← HGL.out, hrs, hm']; simp
        subst hmm
        have hgq : Grid wr w1.heap.size 22 3 Ao (m' + 1) co (rs' ++ [q]) := by rw [← hrs]; exact HG.out
        obtain ⟨hmlt, go, rfl, hgo1, hgo2, hgoc, hgof⟩ := hgq.at_ (k := m') (r := q) (by rw [hm']; simp)
        have hoq := hgq.own (k := m') (r := q) (by rw [hm']; simp)
        have hql := HRL.out q (by rw [hrs]; simp)
        have hqc := hoq.cap
        have HRS := Lib.hid hrs
        have HQ := Lib.hid hoq
        have HMM := Lib.hid hm'
        have HGQ := Lib.hid hgq
        have HKK := Lib.hid hk'
        have HPN := Lib.hid hpre
        have hk1 : 0 < k' + 1 := by omega
        clear hrs hm' hgq hoq hlw hrn hp0 hp1 hpre hk' hk
        by_cases hwy : was = y
        · subst hwy
          have d1 : (was == was) = true := by simp
          go_wp2_with fail
          go_quiet (fail)
          go_wp2_with fail
          have HG7 := Lib.hid (HGQ.out.drewN nq)
          have HQ7 := Lib.hid (HQ.out.drewN nq)
          have hbel7 := below_drewN hbel nq
          have c7 : (wr.drewN nq).cell? ⟨go, m', none⟩ = some (.slice (some ⟨q.g, 0, none⟩) q.zs.length q.c) := hgoc
          have cx7 : (wr.drewN nq).cell? ⟨b, of + (k' + 1), none⟩ = some (.int .i64 (j : Int)) := hcx
          have s7 : w1.heap.size ≤ (wr.drewN nq).heap.size := hs
          clear hgoc hcx hgof hcy hcw hcp
          generalize wr.drewN nq = w7 at HG7 HQ7 hbel7 c7 cx7 s7 ⊢
          have hwr : IntKind.i64.wrap (m' : Int) = (m' : Int) := by rw [IntKind.wrap_i64]; omega
          have hgo7 : go < w7.heap.size := (HG7.out.block go (by simp [Value.ownBlock])).2
          have c8 : (w7.alloc (.cells #[.int .i64 (j : Int)] 3)).cell? ⟨go, m', none⟩ = some (.slice (some ⟨q.g, 0, none⟩) q.zs.length q.c) := (((Below.refl w7.heap.size w7).alloc (Nat.le_refl _) _).cell (p := ⟨go, m', none⟩) hgo7).trans c7
          have hi0 : (m' : Int) < (m' : Int) + 1 := by omega
          have hi1 : (0 : Int) ≤ (k' : Int) + 1 := by omega
          have hi2 : (k' : Int) + 1 < (mk : Int) := by omega
          have hi3 : ((k' : Int) + 1).toNat = k' + 1 := by omega
          go_region_law ((refine step_append_int rfl (.tmp 45) (.tmp 50) 22 rfl w1.heap.size 3 Try.underlying22 Try.infoInt (some ⟨q.g, 0, none⟩) q.zs.length q.c q.zs (by rfl) (by exact HQ7.out.drew.alloc _) w7.heap.size 1 (j : Int) (by rfl) (cell_lit _ _ _ (by rfl)) (by omega) (by simp; omega) ?_; intro A3 c3 w3 ho3 hg3 hb3; obtain ⟨hl3, g3, rfl, hg31, hg32, _, _⟩ := ho3.last; obtain ⟨hoc, hof⟩ := Grid.outer ((HG7.out.drew).alloc (.cells #[.int .i64 (j : Int)] 3)) HMM.out.symm hg3))
          all_goals
            go_wp2_with fail
            go_roundw
            case rel =>
              have hgn := Grid.grow ((HG7.out.drew).alloc (.cells #[.int .i64 (j : Int)] 3)) HMM.out.symm ho3 hg3 (by simpa [Value.ownBlock] using hb3)
              have hbn : Below w1.heap.size w1 w3 := ((hbel7.drew).alloc (by exact s7) _).grown hg3 (by simp; omega) (fun g hgg => (Own.block HQ7.out g hgg).1)
              exact ⟨k' + 1 + 1, m' + 1, was, pre ++ [(j : Int)], r, _, co, rs' ++ [Rw.mk g3 c3 (q.zs ++ [(j : Int)])], by go_num, rfl, by simp [HK.out], by simp [HZ.out], hgn, by omega, fun q' hq' => by
                simp at hq'
                rcases hq' with hq' | rfl
                · have := HRL.out q' (by rw [HRS.out]; simp [hq']); omega
                · simp; omega, by simp, fun p' p hp => by
                have := List.append_inj_right' hp rfl
                simp at this
                subst this
                exact ⟨by simp, HY.out⟩, by
                rw [← HT.out, HRS.out]
                simp only [List.map_append, List.map_cons, List.map_nil]
                rw [Sq.runsK_on (by exact HY.out)], hbn.setCell hgo1 _⟩
            case measure => simp [intOf]; omega
        · have d1 : (was == y) = false := by simpa using hwy
          have HW := Lib.hid hwy
          clear hwy
          go_wp2_with fail
          go_quiet (fail)
          go_wp2_with (first
            | (at_builtin; refine wpList_append_val _ rfl (.tmp 53) (.tmp 59) 56 rfl w1.heap.size 22 Try.underlying56 infoRow (some ⟨go, 0, none⟩) (m' + 1) co (rs.map Rw.v) rfl (by exact (((HG.out.drewN nq).alloc _).alloc _).1) (wr.heap.size + 1) 1 (.slice (some ⟨wr.heap.size, 0, none⟩) 1 1) rfl (cell_lit _ _ _ (by simp)) rfl (by omega) (by simp; omega) ?_; intro A3 c3 w3 ho3 hg3 hb3))
          go_roundw
          case rel =>
            have hgn := Grid.pushed (x := (j : Int)) (HG.out.drewN nq) (by exact hs) ho3 hg3 hb3
            have hbn : Below w1.heap.size w1 w3 := (((below_drewN hbel nq).alloc (by exact hs) _).alloc (by simp; omega) _).grown hg3 (by simp; omega) (fun g hgg => (HG.out.block g hgg).1)
            exact ⟨(k' + 1) + 1, (m' + 1) + 1, y, pre ++ [(j : Int)], r, A3, c3, rs ++ [Rw.mk wr.heap.size 1 [(j : Int)]], by go_num, rfl, by simp [HK.out], by simp [HZ.out], hgn, by omega, fun q hq => by
              simp at hq
              rcases hq with hq | rfl
              · have := HRL.out q hq; omega
              · simp, by simp, fun p' p hp => by
              have := List.append_inj_right' hp rfl
              simp at this
              subst this
              exact ⟨by simp, HY.out⟩, by rw [← HT.out, Sq.runsK_new (y := y) (by exact HY.out) (.inr HW.out)]; simp, hbn⟩
          case measure => simp [intOf]; omega

end Go.Proofs.Ytojcphfonbdlpaa
