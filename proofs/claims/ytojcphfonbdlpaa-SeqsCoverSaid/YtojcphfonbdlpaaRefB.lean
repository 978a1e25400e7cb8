/- The walk of the reference's add: a stack of its own, one entry more. Condition: at most a million entries. -/
import Derived.Test.YtojcphfonbdlpaaRefA
namespace Go.Proofs.Ytojcphfonbdlpaa
open Go.RowKit

theorem Try.infoEntR : (Try.prog.info? 49).map (fun i => (i.zero, i.size, i.bytes)) = some (some (.agg #[.int .i64 0, .int .i64 0, .bool false]), 3, 24) := by kernel_rfl

/-- What a call leaves that hands back a stack of its own and turns nothing that was there. -/
def RetStk (w : World) (l : List Lv.Ent) (e : Ending) (w' : World) : Prop :=
  ∃ A c, e = .returned (.slice A l.length c) ∧ Stk w' w.heap.size 49 A l.length c l ∧ Below w.heap.size w w'

/-- The copy, up to a place. -/
def Cop (base : Nat) (w0 : World) (l : List Lv.Ent) (out i : Value) (wr : World) : Prop :=
  ∃ (k : Nat) (f r : List Lv.Ent) (A : Option Addr) (c : Nat), i = .int .i64 (k : Int) ∧ l = f ++ r ∧ r.length = k ∧ out = .slice A k c ∧ Stk wr base 49 A k c r ∧ Below base w0 wr

set_option maxHeartbeats 2000000 in
theorem radd_any (base : Nat) (l : List Lv.Ent) (A : Option Addr) (n c : Nat) (t : Lv.Ent) (w : World) (h : Stk w base 49 A n c l) (hn : n ≤ 100000) :
    Calls Try.prog 39 #[.slice A n c, .agg #[.int .i64 t.lv, .int .i64 t.ov, .bool t.is]] w (RetStk w (t :: l)) := by
  have hcap := h.cap
  have hl := h.1
  have HH := Lib.hid h
  clear h
  go_enter Try.func39, Try.ntmps39
  go_wp2_with fail
  have hb0 : Below (w.heap.size + 1) (w.alloc (.cells #[.int .i64 t.lv, .int .i64 t.ov, .bool t.is] 49)) (w.alloc (.cells #[.int .i64 t.lv, .int .i64 t.ov, .bool t.is] 49)) := Below.refl _ _
  have hcells : ∀ W, Below (w.heap.size + 1) (w.alloc (.cells #[.int .i64 t.lv, .int .i64 t.ov, .bool t.is] 49)) W → Below w.heap.size w W ∧ W.cell? ⟨w.heap.size, 0, none⟩ = some (.int .i64 t.lv) ∧ W.cell? ⟨w.heap.size, 1, none⟩ = some (.int .i64 t.ov) ∧ W.cell? ⟨w.heap.size, 2, none⟩ = some (.bool t.is) ∧ w.heap.size + 1 ≤ W.heap.size := by
    intro W hW
    obtain ⟨e0, e1, e2⟩ := ent_new w t 49 rfl
    refine ⟨((Below.refl _ _).alloc (Nat.le_refl _) _).trans (hW.mono (by omega)), ?_, ?_, ?_, by simpa using hW.size⟩
    · exact (hW.cell (p := ⟨w.heap.size, 0, none⟩) (by simp)).trans e0
    · exact (hW.cell (p := ⟨w.heap.size, 1, none⟩) (by simp)).trans e1
    · exact (hW.cell (p := ⟨w.heap.size, 2, none⟩) (by simp)).trans e2
  have HC := Lib.hid hcells
  clear hcells
  go_loopw [5, 6] (fun out i wr => Cop (w.heap.size + 1) (w.alloc (.cells #[.int .i64 t.lv, .int .i64 t.ov, .bool t.is] 49)) l out i wr) (fun _ i _ => n - (intOf i).toNat)
  case atStart => exact ⟨0, l, [], none, 0, rfl, by simp, rfl, rfl, Stk.nil_ _ _ _, hb0⟩
  case round =>
    clear hb0
    obtain ⟨k, f, r, A2, c2, rfl, hf, hr, rfl, hown, hbel⟩ := hrel
    obtain ⟨hbw, hc0, hc1, hc2, hsz⟩ := HC.out _ hbel
    rcases List.eq_nil_or_concat f with rfl | ⟨f, x, hfx⟩
    · have hkn : n = k := by rw [hf] at hl; simp at hl; omega
      have hge : n ≤ k := by omega
      have HF := Lib.hid hf
      have HR := Lib.hid hr
      have HN := Lib.hid hkn
      clear hl hf hr hkn
      have hk0 : k ≤ 100000 := by have := HN.out; omega
      go_wp2_with (first
        | (at_builtin; refine wpList_append_ent _ rfl (.tmp 20) (.tmp 22) 44 rfl 49 Try.underlying44 _ Try.infoEntR rfl (w.heap.size + 1) A2 k c2 r rfl (hown.alloc _) ⟨wr.heap.size, 0, none⟩ t 1 rfl (ent_new _ t _ (by rfl)).1 (ent_new _ t _ (by rfl)).2.1 (ent_new _ t _ (by rfl)).2.2 (by omega) (by simp; omega) ?_; intro A3 c3 w3 ho3 hg3))
      go_ret
      have e : l = r := by have := HF.out; simpa using this
      subst e
      refine ⟨A3, c3, by simp [HR.out], ?_, ?_⟩
      · simpa [HR.out] using ho3.more (by omega)
      · exact (hbw.alloc hbw.size _).grown hg3 (by simp; omega) (fun g hgk => by have h := hown.block g hgk; omega)
    · rw [List.concat_eq_append] at hfx
      subst hfx
      have hlk : k < n := by rw [hf] at hl; simp at hl; omega
      have hs : l = f ++ x :: r := by rw [hf]; simp
      have hsrc := HH.out.below hbw (Nat.le_refl _)
      rw [hs] at hsrc
      obtain ⟨_, g, rfl, hg, hgs, h0, h1, h2⟩ := hsrc.at_
      rw [hr] at h0 h1 h2
      have HS := Lib.hid hs
      have HR := Lib.hid hr
      clear hl hf hr hs hsrc
      go_wp2_with (first
        | (at_builtin; refine wpList_append_ent _ rfl (.tmp 13) (.tmp 18) 44 rfl 49 Try.underlying44 _ Try.infoEntR rfl (w.heap.size + 1) A2 k c2 r rfl (hown.alloc _) ⟨wr.heap.size, 0, none⟩ x 1 rfl (ent_new _ x _ (by rfl)).1 (ent_new _ x _ (by rfl)).2.1 (ent_new _ x _ (by rfl)).2.2 (by omega) (by simp; omega) ?_; intro A3 c3 w3 ho3 hg3))
      go_roundw
      case rel => exact ⟨k + 1, f, x :: r, A3, c3, by go_num, HS.out, by simp [HR.out], rfl, ho3, (hbel.alloc hsz _).grown hg3 (by simp; omega) (fun g hgk => (hown.block g hgk).1)⟩
      case measure => simp [intOf]; omega

end Go.Proofs.Ytojcphfonbdlpaa
