/- The walk of seqs.Runs: the level runs as cuts. Condition: two lists of one length, at most a thousand. -/
import Derived.Test.YtojcphfonbdlpaaSeqE
import Derived.Test.YtojcphfonbdlpaaSqChain
import Derived.Laws.BitsLemmas
namespace Go.Proofs.Ytojcphfonbdlpaa
open Go.RowKit

theorem infoCut : (Try.prog.info? 41).map (fun i => (i.zero, i.size, i.bytes)) = some (some (.agg #[.int .i64 0, .int .i64 0]), 2, 16) := by kernel_rfl
def cutCells (l : List (Int × Int)) : List Value := l.flatMap fun p => [.int .i64 p.1, .int .i64 p.2]
theorem cutCells_length : ∀ (l : List (Int × Int)), (cutCells l).length = l.length * 2
  | [] => rfl
  | e :: r => by have := cutCells_length r; simp [cutCells] at this ⊢; omega
/-- a list of cuts, of the call's own -/
def Cuts (w : World) (base : Nat) (A : Option Addr) (n c : Nat) (l : List (Int × Int)) : Prop := l.length = n ∧ w.ownsRow base 41 2 (.slice A n c) n (cutCells l)
theorem Cuts.nil_ (w : World) (base : Nat) : Cuts w base none 0 0 [] := ⟨rfl, World.ownsRow_nil w base 41 2⟩

/-- one cut more, in a region that draws its order -/
theorem step_append_cut {P : Program} {ops : Array Oper} {o : Oper} {a : Act} {w : World} {K : Act → World → Prop} {Q : Exit → Act → World → Prop} {X : Prop}
    (hg : o.guard = none) (s x : Operand) (t : TypeId) (hop : o.op = Op.call { callee := Callee.builtin Builtin.append, args := #[s, x], argTypes := #[t, t] })
    (hts : P.underlying t = some (.slice 41)) (hi : (P.info? 41).map (fun i => (i.zero, i.size, i.bytes)) = some (some (.agg #[.int .i64 0, .int .i64 0]), 2, 16))
    (base : Nat) (A : Option Addr) (n c : Nat) (l : List (Int × Int)) (hs : a.eval s = .slice A n c) (hown : Cuts w base A n c l) (b c2 : Nat) (y z : Int) (hx : a.eval x = .slice (some ⟨b, 0, none⟩) 1 c2)
    (h0 : w.cell? ⟨b, 0, none⟩ = some (.int .i64 y)) (h1 : w.cell? ⟨b, 1, none⟩ = some (.int .i64 z)) (hn : n ≤ 1000000) (hbase : base ≤ w.heap.size)
    (hK : ∀ A' c' w', Cuts w' base A' (n + 1) c' (l ++ [(y, z)]) → w.grownBy w' (Value.slice A n c).ownBlock → K (a.put o.dst (.slice A' (n + 1) c')) w') :
    if Region.wanted o (yielded ops a.tmps) = true then Oper.wp P o a w K Q else X := by
  have hw : Region.wanted o (yielded ops a.tmps) = true := by simp [Region.wanted, hg]
  rw [if_pos hw]
  obtain ⟨i, hi0, hz, hsz, hby⟩ := info_parts hi
  obtain ⟨v', w', hrun, h2, h3, _, h5⟩ := run_append_own_at (P := P) w base t o.type 41 i (.agg #[.int .i64 0, .int .i64 0]) 2 16 hts hi0 hz hsz hby rfl (by omega) _ n (cutCells l) hown.2 ⟨b, 0, none⟩ 1 c2 [.int .i64 y, .int .i64 z] rfl
    (by
      intro j u hy
      match j, hy with
      | 0, hy => simp at hy; subst hy; exact h0
      | 1, hy => simp at hy; subst hy; exact h1
      | j + 2, hy => simp at hy)
    (by intro u hu; simp at hu; rcases hu with rfl | rfl <;> rfl) (by unfold maxLen; omega) (by omega) hbase
  have hform : ∃ A' c', v' = .slice A' (n + 1) c' := by
    rcases h2.2 with ⟨rfl, h⟩ | ⟨g, cap, cur, rfl, _⟩
    · omega
    · exact ⟨_, _, rfl⟩
  obtain ⟨A', c', rfl⟩ := hform
  unfold Oper.wp execOp
  simp only [hop, resolve, invoke, builtin, Sem.run_bind, Sem.run_pure, Result.andThen_ok, List.map_toArray, List.map_cons, List.map_nil, hs, hx, hrun]
  exact hK A' c' w' ⟨by simp [hown.1], by have := h2; simpa [cutCells] using this⟩ h3

/-- What a call leaves that hands back a list of cuts of its own. -/
def RetCuts (w : World) (l : List (Int × Int)) (e : Ending) (w' : World) : Prop := ∃ A c, e = .returned (.slice A l.length c) ∧ Cuts w' w.heap.size A l.length c l ∧ Below w.heap.size w w'
def cutOf (r : List Int) : Int × Int := (r.headD 0, r.getLastD 0 + 1)

/-- Up to a place the cuts are told. -/
def CutsRel (w1 : World) (rs : List Rw) (v i : Value) (wr : World) : Prop :=
  ∃ (k : Nat) (pre r : List Rw) (A : Option Addr) (c : Nat), i = .int .i64 (k : Int) ∧ v = .slice A k c ∧ pre.length = k ∧ rs = pre ++ r ∧ Cuts wr w1.heap.size A k c (pre.map fun q => cutOf q.zs) ∧ Below w1.heap.size w1 wr

theorem cut_lit (w : World) (y z : Value) (e : TypeId) {b : Nat} (hb : b = w.heap.size) : (w.alloc (.cells #[y, z] e)).cell? ⟨b, 0, none⟩ = some y ∧ (w.alloc (.cells #[y, z] e)).cell? ⟨b, 1, none⟩ = some z := by
  subst hb
  exact ⟨by rw [cell_of_row _ _ 0 _ _ _ (heap_alloc_new w (.cells #[y, z] e))]; rfl, by rw [cell_of_row _ _ 1 _ _ _ (heap_alloc_new w (.cells #[y, z] e))]; rfl⟩
theorem Cuts.cap {w : World} {base : Nat} {A : Option Addr} {n c : Nat} {l : List (Int × Int)} (h : Cuts w base A n c l) : n ≤ c ∧ c ≤ 9223372036854775807 := by
  rcases h.2.2 with ⟨h, rfl⟩ | ⟨g, cap, cur, h, _, _, h1, h2, _⟩
  · simp only [Value.slice.injEq] at h; omega
  · simp only [Value.slice.injEq] at h; unfold maxLen at h2; omega
theorem Cuts.alloc {w : World} {base : Nat} {A : Option Addr} {n c : Nat} {l : List (Int × Int)} (h : Cuts w base A n c l) (o : Obj) : Cuts (w.alloc o) base A n c l := ⟨h.1, World.ownsRow.alloc h.2 o⟩
theorem Cuts.drew {w : World} {base : Nat} {A : Option Addr} {n c : Nat} {l : List (Int × Int)} (h : Cuts w base A n c l) : Cuts w.drew base A n c l := h
theorem Cuts.more {w : World} {base base' : Nat} {A : Option Addr} {n c : Nat} {l : List (Int × Int)} (h : Cuts w base A n c l) (hb : base' ≤ base) : Cuts w base' A n c l := ⟨h.1, row_more h.2 hb⟩

theorem flat_long : ∀ (l : List (List Int)), (∀ q ∈ l, q ≠ []) → l.length ≤ l.flatten.length
  | [], _ => Nat.le_refl _
  | q :: l, h => by
    have ih := flat_long l (fun q hq => h q (by simp [hq]))
    have hq := h q (by simp)
    have : 0 < q.length := List.length_pos_iff.2 hq
    rw [List.flatten_cons, List.length_append, List.length_cons]; omega

set_option maxHeartbeats 2000000 in
theorem cuts_any (B : Nat) (A A2 : Option Addr) (n c c2 : Nat) (cs ls : List Int) (w : World) (h : Ints w B A n c cs) (h2 : Ints w B A2 n c2 ls) (hB : B ≤ w.heap.size) (hn : n ≤ 1000) :
    Calls Try.prog 14 #[.slice A n c, .slice A2 n c2] w (RetCuts w ((Sq.runs cs ls).map cutOf)) := by
  have hnn : ((n : Int) != (n : Int)) = false := by simp
  have hlen : cs.length = ls.length := by rw [h.length, h2.length]
  have hrl : (Sq.runs cs ls).length ≤ n := by
    have h1 := flat_long _ (Sq.runs_ne cs ls)
    rw [Sq.runs_flat hlen] at h1
    have h2 := Sq.keptF_length 0 cs
    have := h.length
    omega
  have hpl : ∀ r ∈ Sq.runs cs ls, ∀ p ∈ r, ∃ j : Nat, p = (j : Int) ∧ j < n := fun r hr p hp => by
    obtain ⟨j, h1, h2⟩ := Sq.keptF_mem 0 cs p (by rw [← Sq.runs_flat hlen]; exact List.mem_flatten.2 ⟨r, hr, hp⟩)
    exact ⟨j, h1, by have := h.length; omega⟩
  have HPL := Lib.hid hpl
  clear hlen hpl
  have HI := Lib.hid h
  have HI2 := Lib.hid h2
  clear h h2
  go_enter Try.func14, Try.ntmps14
  go_wp2_with fail
  refine (runs_any B A A2 n c c2 cs ls _ HI.out HI2.out hB hn).mono ?_
  rintro e w1 ⟨Ao, co, rs, rfl, hrs, hg, hb1⟩
  obtain ⟨m, hm⟩ : ∃ m, m = (Sq.runs cs ls).length := ⟨_, rfl⟩
  rw [← hm] at hg hrl ⊢
  have hne : ∀ q ∈ rs, q.zs ≠ [] := fun q hq => Sq.runs_ne cs ls q.zs (by rw [← hrs]; exact List.mem_map_of_mem hq)
  have hs1 := hb1.size
  have hgc := hg.cap
  have HG := Lib.hid hg
  have HRS := Lib.hid hrs
  have HNE := Lib.hid hne
  have HM := Lib.hid hm
  clear hg hrs hne hm
  go_wp2_with fail
  go_loopw [5, 17] (fun v i wr => CutsRel w1 rs v i wr) (fun _ i _ => m - (intOf i).toNat)
  case atStart => exact ⟨0, [], rs, none, 0, rfl, rfl, rfl, rfl, Cuts.nil_ _ _, Below.refl _ _⟩
  case round =>
    obtain ⟨k, pre, r, A3, c3, rfl, rfl, hk, hz, ho, hbel⟩ := hrel
    have hs := hbel.size
    have hoc := ho.cap
    rcases r with _ | ⟨q, r⟩
    · have hge : m ≤ k := by have h1 := HM.out; rw [← HRS.out, hz] at h1; simp at h1; omega
      have hle : k ≤ m := by have h1 := HM.out; rw [← HRS.out, hz] at h1; simp at h1; omega
      have hkm : k = m := by omega
      have HO := Lib.hid ho
      have HZ := Lib.hid hz
      have HKM := Lib.hid hkm
      clear hz hk ho hkm
      go_wp2_with fail
      go_ret
      have e1 : (Sq.runs cs ls).map cutOf = pre.map fun q => cutOf q.zs := by rw [← HRS.out, HZ.out]; simp
      have e2 : ((Sq.runs cs ls).map cutOf).length = k := by rw [List.length_map, HKM.out, HM.out]
      exact ⟨A3, c3, by rw [e2]; rfl, by rw [e2, e1]; exact HO.out.more hs1, hb1.trans (hbel.mono hs1)⟩
    · have hlt : k < m := by have h1 := HM.out; rw [← HRS.out, hz] at h1; simp at h1; omega
      have hq : rs[k]? = some q := by rw [hz, ← hk]; simp
      have hgb := HG.out.below hbel (Nat.le_refl _)
      obtain ⟨_, g, rfl, hg1, hg2, hgc2, _⟩ := hgb.at_ hq
      have hoq := (hgb.own hq).ints
      have hqc := hoq.cap
      have hqr : q ∈ rs := List.mem_of_getElem? hq
      obtain ⟨d, xl, hdx⟩ : ∃ d xl, q.zs = d ++ [xl] := by
        rcases List.eq_nil_or_concat q.zs with h0 | ⟨d, x, h0⟩
        · exact absurd h0 (HNE.out q hqr)
        · exact ⟨d, x, by rw [h0]; simp⟩
      obtain ⟨l', hl'⟩ : ∃ l', l' = d.length := ⟨_, rfl⟩
      have hlq : q.zs.length = l' + 1 := by rw [hdx, hl']; simp
      obtain ⟨jl, hjl, hjn⟩ := HPL.out q.zs (by rw [← HRS.out]; exact List.mem_map_of_mem hqr) xl (by rw [hdx]; simp)
      subst hjl
      obtain ⟨x0, hx0⟩ : ∃ x0, x0 = q.zs.headD 0 := ⟨_, rfl⟩
      obtain ⟨bq, oq, e1, _, hcl⟩ := hoq.get (k := l') (x := (jl : Int)) (by rw [hdx, hl']; simp)
      cases e1
      have hh0 : q.zs[0]? = some x0 := by
        rw [hx0]
        cases hqz : q.zs with
        | nil => rw [hqz] at hlq; simp at hlq
        | cons y ys => rfl
      obtain ⟨bq, oq, e1, _, hch⟩ := hoq.get (k := 0) (x := x0) hh0
      cases e1
      simp only [Nat.zero_add, Nat.add_zero] at hcl hch
      rw [hlq] at hgc2 hqc
      have hwr : IntKind.i64.wrap (l' : Int) = (l' : Int) := by rw [IntKind.wrap_i64]; omega
      have hwr2 : IntKind.i64.wrap ((jl : Int) + 1) = (jl : Int) + 1 := by rw [IntKind.wrap_i64]; omega
      have hi0 : (l' : Int) < (l' : Int) + 1 := by omega
      have hi1 : (0 : Int) < (l' : Int) + 1 := by omega
      have HZ := Lib.hid hz
      have HK := Lib.hid hk
      have HO := Lib.hid ho
      have HX0 := Lib.hid hx0
      have HDX := Lib.hid hdx
      clear hz hk ho hq hgb hoq hqr hdx hlq hl' hx0 hh0
      go_wp2_with fail
      go_region_law ((refine step_append_cut rfl (.tmp 21) (.tmp 33) 36 rfl Try.underlying36 infoCut w1.heap.size A3 k c3 _ (by rfl) (by exact HO.out.drew.alloc _) wr.heap.size 1 x0 ((jl : Int) + 1) (by rfl) (cut_lit _ _ _ _ (by rfl)).1 (cut_lit _ _ _ _ (by rfl)).2 (by omega) (by simp; omega) ?_; intro A4 c4 w4 ho4 hg4))
      all_goals
        go_wp2_with fail
        go_roundw
        case rel =>
          have hbn : Below w1.heap.size w1 w4 := ((hbel.drew).alloc (by exact hs) _).grown hg4 (by simp; omega) (fun g hgg => (World.ownsRow.lt HO.out.2 g hgg).1)
          exact ⟨k + 1, pre ++ [q], r, A4, c4, by go_num, rfl, by simp [HK.out], by simp [HZ.out], by
            have := ho4
            have e : cutOf q.zs = (x0, (jl : Int) + 1) := by unfold cutOf; rw [← HX0.out, HDX.out]; simp
            simpa [e] using this, hbn⟩
        case measure => simp [intOf]; omega

end Go.Proofs.Ytojcphfonbdlpaa