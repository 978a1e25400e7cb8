/- Joined: FontA. -/
import Derived.Test.YtngdolmmaiogiaaJ00
import Derived.Test.YtngdolmmaiogiaaChecked
import Derived.KernelRfl

/- The shapes of a font's data, opened field by field. No condition. Printed by wip/tools/g27.py. -/
namespace Go.Proofs.Ytngdolmmaiogiaa
open Go.RowKit

def shInts : Sh := .sl (.int .i64)
def shGrid : Sh := .sl shInts
def shValue : Sh := .cons (.int .i64) (.cons (.int .i64) (.cons (.int .i64) .nil))
def shAnchor : Sh := .cons (.int .i64) (.cons (.int .i64) .nil)
def shInfo : Sh := .cons (.int .i64) (.cons (.int .i64) (.cons (.int .i64) (.cons shInts .nil)))
def shMap : Sh := .cons (.int .i32) (.cons (.int .i64) .nil)
def shLig : Sh := .cons shInts (.cons (.int .i64) .nil)
def shNest : Sh := .cons (.int .i64) (.cons (.int .i64) .nil)
def shPair : Sh := .cons (.int .i64) (.cons (.int .i64) (.cons shValue (.cons shValue .nil)))
def shCurs : Sh := .cons (.int .i64) (.cons .bool (.cons .bool (.cons shAnchor (.cons shAnchor .nil))))
def shMarkAt : Sh := .cons (.int .i64) (.cons (.int .i64) (.cons shAnchor .nil))
def shSpot : Sh := .cons .bool (.cons shAnchor .nil)
def shHost : Sh := .cons (.int .i64) (.cons (Sh.sl (Sh.sl shSpot)) .nil)
def shSub : Sh := .cons shInts (.cons shGrid (.cons (Sh.sl (Sh.sl shLig)) (.cons shGrid (.cons shGrid (.cons shGrid (.cons (Sh.sl shNest) (.cons (Sh.sl shValue) (.cons (Sh.sl shPair) (.cons (Sh.sl shCurs) (.cons (Sh.sl shMarkAt) (.cons (Sh.sl shHost) .nil)))))))))))
def shLookup : Sh := .cons (.int .i64) (.cons (.int .i64) (.cons (.int .i64) (.cons (Sh.sl shSub) .nil)))
def shFeat : Sh := .cons .str (.cons (.int .i64) (.cons shInts .nil))
def shFont : Sh := .cons (.int .i64) (.cons (Sh.sl shInfo) (.cons (Sh.sl shMap) (.cons (Sh.sl shLookup) (.cons (Sh.sl shFeat) (.cons shGrid .nil)))))
def shGlyph : Sh := .cons (.int .i64) (.cons (.int .i64) (.cons (.int .i64) (.cons (.int .i64) (.cons (.int .i64) (.cons (.int .i64) (.cons (.int .i64) (.cons (.int .i64) (.cons (.int .i64) (.cons (.int .i64) .nil)))))))))

theorem Shd.unValue {w : World} {B : Nat} {cs : List Value} (h : Shd w B shValue cs) : ∃ (ad : Int) (dx : Int) (dy : Int), cs = [.int .i64 ad, .int .i64 dx, .int .i64 dy] ∧ (Lit.int .i64 ad).wf = true ∧ (Lit.int .i64 dx).wf = true ∧ (Lit.int .i64 dy).wf = true := by
  obtain ⟨p1_0, p2_0, rfl, pa_0, pb_0⟩ := h
  obtain ⟨ad, rfl, wad⟩ := pa_0
  obtain ⟨p1_1, p2_1, rfl, pa_1, pb_1⟩ := pb_0
  obtain ⟨dx, rfl, wdx⟩ := pa_1
  obtain ⟨p1_2, p2_2, rfl, pa_2, pb_2⟩ := pb_1
  obtain ⟨dy, rfl, wdy⟩ := pa_2
  obtain rfl : p2_2 = [] := pb_2
  exact ⟨ad, dx, dy, rfl, wad, wdx, wdy⟩
theorem Shd.unAnchor {w : World} {B : Nat} {cs : List Value} (h : Shd w B shAnchor cs) : ∃ (x : Int) (y : Int), cs = [.int .i64 x, .int .i64 y] ∧ (Lit.int .i64 x).wf = true ∧ (Lit.int .i64 y).wf = true := by
  obtain ⟨p1_0, p2_0, rfl, pa_0, pb_0⟩ := h
  obtain ⟨x, rfl, wx⟩ := pa_0
  obtain ⟨p1_1, p2_1, rfl, pa_1, pb_1⟩ := pb_0
  obtain ⟨y, rfl, wy⟩ := pa_1
  obtain rfl : p2_1 = [] := pb_1
  exact ⟨x, y, rfl, wx, wy⟩
theorem Shd.unInfo {w : World} {B : Nat} {cs : List Value} (h : Shd w B shInfo cs) : ∃ (ad : Int) (ki : Int) (aa : Int) (Aca : Option Addr) (nca cca : Nat), cs = [.int .i64 ad, .int .i64 ki, .int .i64 aa, .slice Aca nca cca] ∧ (Lit.int .i64 ad).wf = true ∧ (Lit.int .i64 ki).wf = true ∧ (Lit.int .i64 aa).wf = true ∧ ShSl w B (Sh.int .i64) Aca nca cca := by
  obtain ⟨p1_0, p2_0, rfl, pa_0, pb_0⟩ := h
  obtain ⟨ad, rfl, wad⟩ := pa_0
  obtain ⟨p1_1, p2_1, rfl, pa_1, pb_1⟩ := pb_0
  obtain ⟨ki, rfl, wki⟩ := pa_1
  obtain ⟨p1_2, p2_2, rfl, pa_2, pb_2⟩ := pb_1
  obtain ⟨aa, rfl, waa⟩ := pa_2
  obtain ⟨p1_3, p2_3, rfl, pa_3, pb_3⟩ := pb_2
  obtain ⟨Aca, nca, cca, rfl, wca⟩ := Shd.slice pa_3
  obtain rfl : p2_3 = [] := pb_3
  exact ⟨ad, ki, aa, Aca, nca, cca, rfl, wad, wki, waa, wca⟩
theorem Shd.unMap {w : World} {B : Nat} {cs : List Value} (h : Shd w B shMap cs) : ∃ (co : Int) (gl : Int), cs = [.int .i32 co, .int .i64 gl] ∧ (Lit.int .i32 co).wf = true ∧ (Lit.int .i64 gl).wf = true := by
  obtain ⟨p1_0, p2_0, rfl, pa_0, pb_0⟩ := h
  obtain ⟨co, rfl, wco⟩ := pa_0
  obtain ⟨p1_1, p2_1, rfl, pa_1, pb_1⟩ := pb_0
  obtain ⟨gl, rfl, wgl⟩ := pa_1
  obtain rfl : p2_1 = [] := pb_1
  exact ⟨co, gl, rfl, wco, wgl⟩
theorem Shd.unLig {w : World} {B : Nat} {cs : List Value} (h : Shd w B shLig cs) : ∃ (Apa : Option Addr) (npa cpa : Nat) (gl : Int), cs = [.slice Apa npa cpa, .int .i64 gl] ∧ ShSl w B (Sh.int .i64) Apa npa cpa ∧ (Lit.int .i64 gl).wf = true := by
  obtain ⟨p1_0, p2_0, rfl, pa_0, pb_0⟩ := h
  obtain ⟨Apa, npa, cpa, rfl, wpa⟩ := Shd.slice pa_0
  obtain ⟨p1_1, p2_1, rfl, pa_1, pb_1⟩ := pb_0
  obtain ⟨gl, rfl, wgl⟩ := pa_1
  obtain rfl : p2_1 = [] := pb_1
  exact ⟨Apa, npa, cpa, gl, rfl, wpa, wgl⟩
theorem Shd.unNest {w : World} {B : Nat} {cs : List Value} (h : Shd w B shNest cs) : ∃ (aa : Int) (lo : Int), cs = [.int .i64 aa, .int .i64 lo] ∧ (Lit.int .i64 aa).wf = true ∧ (Lit.int .i64 lo).wf = true := by
  obtain ⟨p1_0, p2_0, rfl, pa_0, pb_0⟩ := h
  obtain ⟨aa, rfl, waa⟩ := pa_0
  obtain ⟨p1_1, p2_1, rfl, pa_1, pb_1⟩ := pb_0
  obtain ⟨lo, rfl, wlo⟩ := pa_1
  obtain rfl : p2_1 = [] := pb_1
  exact ⟨aa, lo, rfl, waa, wlo⟩
theorem Shd.unPair {w : World} {B : Nat} {cs : List Value} (h : Shd w B shPair cs) : ∃ (fi : Int) (se : Int) (a0 : Int) (a1 : Int) (a2 : Int) (b0 : Int) (b1 : Int) (b2 : Int), cs = [.int .i64 fi, .int .i64 se, .int .i64 a0, .int .i64 a1, .int .i64 a2, .int .i64 b0, .int .i64 b1, .int .i64 b2] ∧ (Lit.int .i64 fi).wf = true ∧ (Lit.int .i64 se).wf = true ∧ (Lit.int .i64 a0).wf = true ∧ (Lit.int .i64 a1).wf = true ∧ (Lit.int .i64 a2).wf = true ∧ (Lit.int .i64 b0).wf = true ∧ (Lit.int .i64 b1).wf = true ∧ (Lit.int .i64 b2).wf = true := by
  obtain ⟨p1_0, p2_0, rfl, pa_0, pb_0⟩ := h
  obtain ⟨fi, rfl, wfi⟩ := pa_0
  obtain ⟨p1_1, p2_1, rfl, pa_1, pb_1⟩ := pb_0
  obtain ⟨se, rfl, wse⟩ := pa_1
  obtain ⟨p1_2, p2_2, rfl, pa_2, pb_2⟩ := pb_1
  obtain ⟨pt21_0, pt22_0, rfl, pt2a_0, pt2b_0⟩ := pa_2
  obtain ⟨a0, rfl, wa0⟩ := pt2a_0
  obtain ⟨pt21_1, pt22_1, rfl, pt2a_1, pt2b_1⟩ := pt2b_0
  obtain ⟨a1, rfl, wa1⟩ := pt2a_1
  obtain ⟨pt21_2, pt22_2, rfl, pt2a_2, pt2b_2⟩ := pt2b_1
  obtain ⟨a2, rfl, wa2⟩ := pt2a_2
  obtain rfl : pt22_2 = [] := pt2b_2
  obtain ⟨p1_3, p2_3, rfl, pa_3, pb_3⟩ := pb_2
  obtain ⟨pt31_0, pt32_0, rfl, pt3a_0, pt3b_0⟩ := pa_3
  obtain ⟨b0, rfl, wb0⟩ := pt3a_0
  obtain ⟨pt31_1, pt32_1, rfl, pt3a_1, pt3b_1⟩ := pt3b_0
  obtain ⟨b1, rfl, wb1⟩ := pt3a_1
  obtain ⟨pt31_2, pt32_2, rfl, pt3a_2, pt3b_2⟩ := pt3b_1
  obtain ⟨b2, rfl, wb2⟩ := pt3a_2
  obtain rfl : pt32_2 = [] := pt3b_2
  obtain rfl : p2_3 = [] := pb_3
  exact ⟨fi, se, a0, a1, a2, b0, b1, b2, rfl, wfi, wse, wa0, wa1, wa2, wb0, wb1, wb2⟩
theorem Shd.unCurs {w : World} {B : Nat} {cs : List Value} (h : Shd w B shCurs cs) : ∃ (gl : Int) (he : Bool) (hx : Bool) (x0 : Int) (y0 : Int) (x1 : Int) (y1 : Int), cs = [.int .i64 gl, .bool he, .bool hx, .int .i64 x0, .int .i64 y0, .int .i64 x1, .int .i64 y1] ∧ (Lit.int .i64 gl).wf = true ∧ True ∧ True ∧ (Lit.int .i64 x0).wf = true ∧ (Lit.int .i64 y0).wf = true ∧ (Lit.int .i64 x1).wf = true ∧ (Lit.int .i64 y1).wf = true := by
  obtain ⟨p1_0, p2_0, rfl, pa_0, pb_0⟩ := h
  obtain ⟨gl, rfl, wgl⟩ := pa_0
  obtain ⟨p1_1, p2_1, rfl, pa_1, pb_1⟩ := pb_0
  obtain ⟨he, rfl⟩ := pa_1
  obtain ⟨p1_2, p2_2, rfl, pa_2, pb_2⟩ := pb_1
  obtain ⟨hx, rfl⟩ := pa_2
  obtain ⟨p1_3, p2_3, rfl, pa_3, pb_3⟩ := pb_2
  obtain ⟨pt31_0, pt32_0, rfl, pt3a_0, pt3b_0⟩ := pa_3
  obtain ⟨x0, rfl, wx0⟩ := pt3a_0
  obtain ⟨pt31_1, pt32_1, rfl, pt3a_1, pt3b_1⟩ := pt3b_0
  obtain ⟨y0, rfl, wy0⟩ := pt3a_1
  obtain rfl : pt32_1 = [] := pt3b_1
  obtain ⟨p1_4, p2_4, rfl, pa_4, pb_4⟩ := pb_3
  obtain ⟨pt41_0, pt42_0, rfl, pt4a_0, pt4b_0⟩ := pa_4
  obtain ⟨x1, rfl, wx1⟩ := pt4a_0
  obtain ⟨pt41_1, pt42_1, rfl, pt4a_1, pt4b_1⟩ := pt4b_0
  obtain ⟨y1, rfl, wy1⟩ := pt4a_1
  obtain rfl : pt42_1 = [] := pt4b_1
  obtain rfl : p2_4 = [] := pb_4
  exact ⟨gl, he, hx, x0, y0, x1, y1, rfl, wgl, trivial, trivial, wx0, wy0, wx1, wy1⟩
theorem Shd.unMarkAt {w : World} {B : Nat} {cs : List Value} (h : Shd w B shMarkAt cs) : ∃ (gl : Int) (cl : Int) (x : Int) (y : Int), cs = [.int .i64 gl, .int .i64 cl, .int .i64 x, .int .i64 y] ∧ (Lit.int .i64 gl).wf = true ∧ (Lit.int .i64 cl).wf = true ∧ (Lit.int .i64 x).wf = true ∧ (Lit.int .i64 y).wf = true := by
  obtain ⟨p1_0, p2_0, rfl, pa_0, pb_0⟩ := h
  obtain ⟨gl, rfl, wgl⟩ := pa_0
  obtain ⟨p1_1, p2_1, rfl, pa_1, pb_1⟩ := pb_0
  obtain ⟨cl, rfl, wcl⟩ := pa_1
  obtain ⟨p1_2, p2_2, rfl, pa_2, pb_2⟩ := pb_1
  obtain ⟨pt21_0, pt22_0, rfl, pt2a_0, pt2b_0⟩ := pa_2
  obtain ⟨x, rfl, wx⟩ := pt2a_0
  obtain ⟨pt21_1, pt22_1, rfl, pt2a_1, pt2b_1⟩ := pt2b_0
  obtain ⟨y, rfl, wy⟩ := pt2a_1
  obtain rfl : pt22_1 = [] := pt2b_1
  obtain rfl : p2_2 = [] := pb_2
  exact ⟨gl, cl, x, y, rfl, wgl, wcl, wx, wy⟩
theorem Shd.unSpot {w : World} {B : Nat} {cs : List Value} (h : Shd w B shSpot cs) : ∃ (ha : Bool) (x : Int) (y : Int), cs = [.bool ha, .int .i64 x, .int .i64 y] ∧ True ∧ (Lit.int .i64 x).wf = true ∧ (Lit.int .i64 y).wf = true := by
  obtain ⟨p1_0, p2_0, rfl, pa_0, pb_0⟩ := h
  obtain ⟨ha, rfl⟩ := pa_0
  obtain ⟨p1_1, p2_1, rfl, pa_1, pb_1⟩ := pb_0
  obtain ⟨pt11_0, pt12_0, rfl, pt1a_0, pt1b_0⟩ := pa_1
  obtain ⟨x, rfl, wx⟩ := pt1a_0
  obtain ⟨pt11_1, pt12_1, rfl, pt1a_1, pt1b_1⟩ := pt1b_0
  obtain ⟨y, rfl, wy⟩ := pt1a_1
  obtain rfl : pt12_1 = [] := pt1b_1
  obtain rfl : p2_1 = [] := pb_1
  exact ⟨ha, x, y, rfl, trivial, wx, wy⟩
theorem Shd.unHost {w : World} {B : Nat} {cs : List Value} (h : Shd w B shHost cs) : ∃ (gl : Int) (Asp : Option Addr) (nsp csp : Nat), cs = [.int .i64 gl, .slice Asp nsp csp] ∧ (Lit.int .i64 gl).wf = true ∧ ShSl w B (Sh.sl shSpot) Asp nsp csp := by
  obtain ⟨p1_0, p2_0, rfl, pa_0, pb_0⟩ := h
  obtain ⟨gl, rfl, wgl⟩ := pa_0
  obtain ⟨p1_1, p2_1, rfl, pa_1, pb_1⟩ := pb_0
  obtain ⟨Asp, nsp, csp, rfl, wsp⟩ := Shd.slice pa_1
  obtain rfl : p2_1 = [] := pb_1
  exact ⟨gl, Asp, nsp, csp, rfl, wgl, wsp⟩
theorem Shd.unSub {w : World} {B : Nat} {cs : List Value} (h : Shd w B shSub cs) : ∃ (Aco : Option Addr) (nco cco : Nat) (Ato : Option Addr) (nto cto : Nat) (Ali : Option Addr) (nli cli : Nat) (Aba : Option Addr) (nba cba : Nat) (Ain : Option Addr) (nin cin : Nat) (Aah : Option Addr) (nah cah : Nat) (Ane : Option Addr) (nne cne : Nat) (Ava : Option Addr) (nva cva : Nat) (Apr : Option Addr) (npr cpr : Nat) (Acu : Option Addr) (ncu ccu : Nat) (Ama : Option Addr) (nma cma : Nat) (Aho : Option Addr) (nho cho : Nat), cs = [.slice Aco nco cco, .slice Ato nto cto, .slice Ali nli cli, .slice Aba nba cba, .slice Ain nin cin, .slice Aah nah cah, .slice Ane nne cne, .slice Ava nva cva, .slice Apr npr cpr, .slice Acu ncu ccu, .slice Ama nma cma, .slice Aho nho cho] ∧ ShSl w B (Sh.int .i64) Aco nco cco ∧ ShSl w B shInts Ato nto cto ∧ ShSl w B (Sh.sl shLig) Ali nli cli ∧ ShSl w B shInts Aba nba cba ∧ ShSl w B shInts Ain nin cin ∧ ShSl w B shInts Aah nah cah ∧ ShSl w B shNest Ane nne cne ∧ ShSl w B shValue Ava nva cva ∧ ShSl w B shPair Apr npr cpr ∧ ShSl w B shCurs Acu ncu ccu ∧ ShSl w B shMarkAt Ama nma cma ∧ ShSl w B shHost Aho nho cho := by
  obtain ⟨p1_0, p2_0, rfl, pa_0, pb_0⟩ := h
  obtain ⟨Aco, nco, cco, rfl, wco⟩ := Shd.slice pa_0
  obtain ⟨p1_1, p2_1, rfl, pa_1, pb_1⟩ := pb_0
  obtain ⟨Ato, nto, cto, rfl, wto⟩ := Shd.slice pa_1
  obtain ⟨p1_2, p2_2, rfl, pa_2, pb_2⟩ := pb_1
  obtain ⟨Ali, nli, cli, rfl, wli⟩ := Shd.slice pa_2
  obtain ⟨p1_3, p2_3, rfl, pa_3, pb_3⟩ := pb_2
  obtain ⟨Aba, nba, cba, rfl, wba⟩ := Shd.slice pa_3
  obtain ⟨p1_4, p2_4, rfl, pa_4, pb_4⟩ := pb_3
  obtain ⟨Ain, nin, cin, rfl, win⟩ := Shd.slice pa_4
  obtain ⟨p1_5, p2_5, rfl, pa_5, pb_5⟩ := pb_4
  obtain ⟨Aah, nah, cah, rfl, wah⟩ := Shd.slice pa_5
  obtain ⟨p1_6, p2_6, rfl, pa_6, pb_6⟩ := pb_5
  obtain ⟨Ane, nne, cne, rfl, wne⟩ := Shd.slice pa_6
  obtain ⟨p1_7, p2_7, rfl, pa_7, pb_7⟩ := pb_6
  obtain ⟨Ava, nva, cva, rfl, wva⟩ := Shd.slice pa_7
  obtain ⟨p1_8, p2_8, rfl, pa_8, pb_8⟩ := pb_7
  obtain ⟨Apr, npr, cpr, rfl, wpr⟩ := Shd.slice pa_8
  obtain ⟨p1_9, p2_9, rfl, pa_9, pb_9⟩ := pb_8
  obtain ⟨Acu, ncu, ccu, rfl, wcu⟩ := Shd.slice pa_9
  obtain ⟨p1_10, p2_10, rfl, pa_10, pb_10⟩ := pb_9
  obtain ⟨Ama, nma, cma, rfl, wma⟩ := Shd.slice pa_10
  obtain ⟨p1_11, p2_11, rfl, pa_11, pb_11⟩ := pb_10
  obtain ⟨Aho, nho, cho, rfl, who⟩ := Shd.slice pa_11
  obtain rfl : p2_11 = [] := pb_11
  exact ⟨Aco, nco, cco, Ato, nto, cto, Ali, nli, cli, Aba, nba, cba, Ain, nin, cin, Aah, nah, cah, Ane, nne, cne, Ava, nva, cva, Apr, npr, cpr, Acu, ncu, ccu, Ama, nma, cma, Aho, nho, cho, rfl, wco, wto, wli, wba, win, wah, wne, wva, wpr, wcu, wma, who⟩
theorem Shd.unLookup {w : World} {B : Nat} {cs : List Value} (h : Shd w B shLookup cs) : ∃ (ki : Int) (fl : Int) (se : Int) (Asu : Option Addr) (nsu csu : Nat), cs = [.int .i64 ki, .int .i64 fl, .int .i64 se, .slice Asu nsu csu] ∧ (Lit.int .i64 ki).wf = true ∧ (Lit.int .i64 fl).wf = true ∧ (Lit.int .i64 se).wf = true ∧ ShSl w B shSub Asu nsu csu := by
  obtain ⟨p1_0, p2_0, rfl, pa_0, pb_0⟩ := h
  obtain ⟨ki, rfl, wki⟩ := pa_0
  obtain ⟨p1_1, p2_1, rfl, pa_1, pb_1⟩ := pb_0
  obtain ⟨fl, rfl, wfl⟩ := pa_1
  obtain ⟨p1_2, p2_2, rfl, pa_2, pb_2⟩ := pb_1
  obtain ⟨se, rfl, wse⟩ := pa_2
  obtain ⟨p1_3, p2_3, rfl, pa_3, pb_3⟩ := pb_2
  obtain ⟨Asu, nsu, csu, rfl, wsu⟩ := Shd.slice pa_3
  obtain rfl : p2_3 = [] := pb_3
  exact ⟨ki, fl, se, Asu, nsu, csu, rfl, wki, wfl, wse, wsu⟩
theorem Shd.unFeat {w : World} {B : Nat} {cs : List Value} (h : Shd w B shFeat cs) : ∃ (ta : ByteArray) (sc : Int) (Alo : Option Addr) (nlo clo : Nat), cs = [.string ta, .int .i64 sc, .slice Alo nlo clo] ∧ ta.size ≤ maxLen ∧ (Lit.int .i64 sc).wf = true ∧ ShSl w B (Sh.int .i64) Alo nlo clo := by
  obtain ⟨p1_0, p2_0, rfl, pa_0, pb_0⟩ := h
  obtain ⟨ta, rfl, wta⟩ := pa_0
  obtain ⟨p1_1, p2_1, rfl, pa_1, pb_1⟩ := pb_0
  obtain ⟨sc, rfl, wsc⟩ := pa_1
  obtain ⟨p1_2, p2_2, rfl, pa_2, pb_2⟩ := pb_1
  obtain ⟨Alo, nlo, clo, rfl, wlo⟩ := Shd.slice pa_2
  obtain rfl : p2_2 = [] := pb_2
  exact ⟨ta, sc, Alo, nlo, clo, rfl, wta, wsc, wlo⟩
theorem Shd.unFont {w : World} {B : Nat} {cs : List Value} (h : Shd w B shFont cs) : ∃ (em : Int) (AG : Option Addr) (nG cG : Nat) (AM : Option Addr) (nM cM : Nat) (AL : Option Addr) (nL cL : Nat) (AF : Option Addr) (nF cF : Nat) (AS : Option Addr) (nS cS : Nat), cs = [.int .i64 em, .slice AG nG cG, .slice AM nM cM, .slice AL nL cL, .slice AF nF cF, .slice AS nS cS] ∧ (Lit.int .i64 em).wf = true ∧ ShSl w B shInfo AG nG cG ∧ ShSl w B shMap AM nM cM ∧ ShSl w B shLookup AL nL cL ∧ ShSl w B shFeat AF nF cF ∧ ShSl w B shInts AS nS cS := by
  obtain ⟨p1_0, p2_0, rfl, pa_0, pb_0⟩ := h
  obtain ⟨em, rfl, wem⟩ := pa_0
  obtain ⟨p1_1, p2_1, rfl, pa_1, pb_1⟩ := pb_0
  obtain ⟨AG, nG, cG, rfl, wG⟩ := Shd.slice pa_1
  obtain ⟨p1_2, p2_2, rfl, pa_2, pb_2⟩ := pb_1
  obtain ⟨AM, nM, cM, rfl, wM⟩ := Shd.slice pa_2
  obtain ⟨p1_3, p2_3, rfl, pa_3, pb_3⟩ := pb_2
  obtain ⟨AL, nL, cL, rfl, wL⟩ := Shd.slice pa_3
  obtain ⟨p1_4, p2_4, rfl, pa_4, pb_4⟩ := pb_3
  obtain ⟨AF, nF, cF, rfl, wF⟩ := Shd.slice pa_4
  obtain ⟨p1_5, p2_5, rfl, pa_5, pb_5⟩ := pb_4
  obtain ⟨AS, nS, cS, rfl, wS⟩ := Shd.slice pa_5
  obtain rfl : p2_5 = [] := pb_5
  exact ⟨em, AG, nG, cG, AM, nM, cM, AL, nL, cL, AF, nF, cF, AS, nS, cS, rfl, wem, wG, wM, wL, wF, wS⟩
theorem Shd.unGlyph {w : World} {B : Nat} {cs : List Value} (h : Shd w B shGlyph cs) : ∃ (id : Int) (cl : Int) (ad : Int) (dx : Int) (dy : Int) (to : Int) (ha : Int) (li : Int) (co : Int) (ma : Int), cs = [.int .i64 id, .int .i64 cl, .int .i64 ad, .int .i64 dx, .int .i64 dy, .int .i64 to, .int .i64 ha, .int .i64 li, .int .i64 co, .int .i64 ma] ∧ (Lit.int .i64 id).wf = true ∧ (Lit.int .i64 cl).wf = true ∧ (Lit.int .i64 ad).wf = true ∧ (Lit.int .i64 dx).wf = true ∧ (Lit.int .i64 dy).wf = true ∧ (Lit.int .i64 to).wf = true ∧ (Lit.int .i64 ha).wf = true ∧ (Lit.int .i64 li).wf = true ∧ (Lit.int .i64 co).wf = true ∧ (Lit.int .i64 ma).wf = true := by
  obtain ⟨p1_0, p2_0, rfl, pa_0, pb_0⟩ := h
  obtain ⟨id, rfl, wid⟩ := pa_0
  obtain ⟨p1_1, p2_1, rfl, pa_1, pb_1⟩ := pb_0
  obtain ⟨cl, rfl, wcl⟩ := pa_1
  obtain ⟨p1_2, p2_2, rfl, pa_2, pb_2⟩ := pb_1
  obtain ⟨ad, rfl, wad⟩ := pa_2
  obtain ⟨p1_3, p2_3, rfl, pa_3, pb_3⟩ := pb_2
  obtain ⟨dx, rfl, wdx⟩ := pa_3
  obtain ⟨p1_4, p2_4, rfl, pa_4, pb_4⟩ := pb_3
  obtain ⟨dy, rfl, wdy⟩ := pa_4
  obtain ⟨p1_5, p2_5, rfl, pa_5, pb_5⟩ := pb_4
  obtain ⟨to, rfl, wto⟩ := pa_5
  obtain ⟨p1_6, p2_6, rfl, pa_6, pb_6⟩ := pb_5
  obtain ⟨ha, rfl, wha⟩ := pa_6
  obtain ⟨p1_7, p2_7, rfl, pa_7, pb_7⟩ := pb_6
  obtain ⟨li, rfl, wli⟩ := pa_7
  obtain ⟨p1_8, p2_8, rfl, pa_8, pb_8⟩ := pb_7
  obtain ⟨co, rfl, wco⟩ := pa_8
  obtain ⟨p1_9, p2_9, rfl, pa_9, pb_9⟩ := pb_8
  obtain ⟨ma, rfl, wma⟩ := pa_9
  obtain rfl : p2_9 = [] := pb_9
  exact ⟨id, cl, ad, dx, dy, to, ha, li, co, ma, rfl, wid, wcl, wad, wdx, wdy, wto, wha, wli, wco, wma⟩

theorem ShSl.atValue {w : World} {B : Nat} {A : Option Addr} {n c k : Nat} (h : ShSl w B shValue A n c) (hk : k < n) : ∃ (b o : Nat) (ad : Int) (dx : Int) (dy : Int), A = some ⟨b, o, none⟩ ∧ b < B ∧ (w.cell? ⟨b, o + k * 3, none⟩ = some (.int .i64 ad) ∧ w.cell? ⟨b, o + k * 3 + 1, none⟩ = some (.int .i64 dx) ∧ w.cell? ⟨b, o + k * 3 + 2, none⟩ = some (.int .i64 dy)) ∧ (Lit.int .i64 ad).wf = true ∧ (Lit.int .i64 dx).wf = true ∧ (Lit.int .i64 dy).wf = true := by
  obtain ⟨b, o, cs, rfl, hb, _, hc, hs⟩ := h.at_ hk
  obtain ⟨ad, dx, dy, rfl, hf⟩ := hs.unValue
  exact ⟨b, o, ad, dx, dy, rfl, hb, ⟨hc 0 _ rfl, hc 1 _ rfl, hc 2 _ rfl⟩, hf⟩
theorem ShSl.atInfo {w : World} {B : Nat} {A : Option Addr} {n c k : Nat} (h : ShSl w B shInfo A n c) (hk : k < n) : ∃ (b o : Nat) (ad : Int) (ki : Int) (aa : Int) (Aca : Option Addr) (nca cca : Nat), A = some ⟨b, o, none⟩ ∧ b < B ∧ (w.cell? ⟨b, o + k * 4, none⟩ = some (.int .i64 ad) ∧ w.cell? ⟨b, o + k * 4 + 1, none⟩ = some (.int .i64 ki) ∧ w.cell? ⟨b, o + k * 4 + 2, none⟩ = some (.int .i64 aa) ∧ w.cell? ⟨b, o + k * 4 + 3, none⟩ = some (.slice Aca nca cca)) ∧ (Lit.int .i64 ad).wf = true ∧ (Lit.int .i64 ki).wf = true ∧ (Lit.int .i64 aa).wf = true ∧ ShSl w B (Sh.int .i64) Aca nca cca := by
  obtain ⟨b, o, cs, rfl, hb, _, hc, hs⟩ := h.at_ hk
  obtain ⟨ad, ki, aa, Aca, nca, cca, rfl, hf⟩ := hs.unInfo
  exact ⟨b, o, ad, ki, aa, Aca, nca, cca, rfl, hb, ⟨hc 0 _ rfl, hc 1 _ rfl, hc 2 _ rfl, hc 3 _ rfl⟩, hf⟩
theorem ShSl.atMap {w : World} {B : Nat} {A : Option Addr} {n c k : Nat} (h : ShSl w B shMap A n c) (hk : k < n) : ∃ (b o : Nat) (co : Int) (gl : Int), A = some ⟨b, o, none⟩ ∧ b < B ∧ (w.cell? ⟨b, o + k * 2, none⟩ = some (.int .i32 co) ∧ w.cell? ⟨b, o + k * 2 + 1, none⟩ = some (.int .i64 gl)) ∧ (Lit.int .i32 co).wf = true ∧ (Lit.int .i64 gl).wf = true := by
  obtain ⟨b, o, cs, rfl, hb, _, hc, hs⟩ := h.at_ hk
  obtain ⟨co, gl, rfl, hf⟩ := hs.unMap
  exact ⟨b, o, co, gl, rfl, hb, ⟨hc 0 _ rfl, hc 1 _ rfl⟩, hf⟩
theorem ShSl.atLig {w : World} {B : Nat} {A : Option Addr} {n c k : Nat} (h : ShSl w B shLig A n c) (hk : k < n) : ∃ (b o : Nat) (Apa : Option Addr) (npa cpa : Nat) (gl : Int), A = some ⟨b, o, none⟩ ∧ b < B ∧ (w.cell? ⟨b, o + k * 2, none⟩ = some (.slice Apa npa cpa) ∧ w.cell? ⟨b, o + k * 2 + 1, none⟩ = some (.int .i64 gl)) ∧ ShSl w B (Sh.int .i64) Apa npa cpa ∧ (Lit.int .i64 gl).wf = true := by
  obtain ⟨b, o, cs, rfl, hb, _, hc, hs⟩ := h.at_ hk
  obtain ⟨Apa, npa, cpa, gl, rfl, hf⟩ := hs.unLig
  exact ⟨b, o, Apa, npa, cpa, gl, rfl, hb, ⟨hc 0 _ rfl, hc 1 _ rfl⟩, hf⟩
theorem ShSl.atNest {w : World} {B : Nat} {A : Option Addr} {n c k : Nat} (h : ShSl w B shNest A n c) (hk : k < n) : ∃ (b o : Nat) (aa : Int) (lo : Int), A = some ⟨b, o, none⟩ ∧ b < B ∧ (w.cell? ⟨b, o + k * 2, none⟩ = some (.int .i64 aa) ∧ w.cell? ⟨b, o + k * 2 + 1, none⟩ = some (.int .i64 lo)) ∧ (Lit.int .i64 aa).wf = true ∧ (Lit.int .i64 lo).wf = true := by
  obtain ⟨b, o, cs, rfl, hb, _, hc, hs⟩ := h.at_ hk
  obtain ⟨aa, lo, rfl, hf⟩ := hs.unNest
  exact ⟨b, o, aa, lo, rfl, hb, ⟨hc 0 _ rfl, hc 1 _ rfl⟩, hf⟩
theorem ShSl.atPair {w : World} {B : Nat} {A : Option Addr} {n c k : Nat} (h : ShSl w B shPair A n c) (hk : k < n) : ∃ (b o : Nat) (fi : Int) (se : Int) (a0 : Int) (a1 : Int) (a2 : Int) (b0 : Int) (b1 : Int) (b2 : Int), A = some ⟨b, o, none⟩ ∧ b < B ∧ (w.cell? ⟨b, o + k * 8, none⟩ = some (.int .i64 fi) ∧ w.cell? ⟨b, o + k * 8 + 1, none⟩ = some (.int .i64 se) ∧ w.cell? ⟨b, o + k * 8 + 2, none⟩ = some (.int .i64 a0) ∧ w.cell? ⟨b, o + k * 8 + 3, none⟩ = some (.int .i64 a1) ∧ w.cell? ⟨b, o + k * 8 + 4, none⟩ = some (.int .i64 a2) ∧ w.cell? ⟨b, o + k * 8 + 5, none⟩ = some (.int .i64 b0) ∧ w.cell? ⟨b, o + k * 8 + 6, none⟩ = some (.int .i64 b1) ∧ w.cell? ⟨b, o + k * 8 + 7, none⟩ = some (.int .i64 b2)) ∧ (Lit.int .i64 fi).wf = true ∧ (Lit.int .i64 se).wf = true ∧ (Lit.int .i64 a0).wf = true ∧ (Lit.int .i64 a1).wf = true ∧ (Lit.int .i64 a2).wf = true ∧ (Lit.int .i64 b0).wf = true ∧ (Lit.int .i64 b1).wf = true ∧ (Lit.int .i64 b2).wf = true := by
  obtain ⟨b, o, cs, rfl, hb, _, hc, hs⟩ := h.at_ hk
  obtain ⟨fi, se, a0, a1, a2, b0, b1, b2, rfl, hf⟩ := hs.unPair
  exact ⟨b, o, fi, se, a0, a1, a2, b0, b1, b2, rfl, hb, ⟨hc 0 _ rfl, hc 1 _ rfl, hc 2 _ rfl, hc 3 _ rfl, hc 4 _ rfl, hc 5 _ rfl, hc 6 _ rfl, hc 7 _ rfl⟩, hf⟩
theorem ShSl.atCurs {w : World} {B : Nat} {A : Option Addr} {n c k : Nat} (h : ShSl w B shCurs A n c) (hk : k < n) : ∃ (b o : Nat) (gl : Int) (he : Bool) (hx : Bool) (x0 : Int) (y0 : Int) (x1 : Int) (y1 : Int), A = some ⟨b, o, none⟩ ∧ b < B ∧ (w.cell? ⟨b, o + k * 7, none⟩ = some (.int .i64 gl) ∧ w.cell? ⟨b, o + k * 7 + 1, none⟩ = some (.bool he) ∧ w.cell? ⟨b, o + k * 7 + 2, none⟩ = some (.bool hx) ∧ w.cell? ⟨b, o + k * 7 + 3, none⟩ = some (.int .i64 x0) ∧ w.cell? ⟨b, o + k * 7 + 4, none⟩ = some (.int .i64 y0) ∧ w.cell? ⟨b, o + k * 7 + 5, none⟩ = some (.int .i64 x1) ∧ w.cell? ⟨b, o + k * 7 + 6, none⟩ = some (.int .i64 y1)) ∧ (Lit.int .i64 gl).wf = true ∧ True ∧ True ∧ (Lit.int .i64 x0).wf = true ∧ (Lit.int .i64 y0).wf = true ∧ (Lit.int .i64 x1).wf = true ∧ (Lit.int .i64 y1).wf = true := by
  obtain ⟨b, o, cs, rfl, hb, _, hc, hs⟩ := h.at_ hk
  obtain ⟨gl, he, hx, x0, y0, x1, y1, rfl, hf⟩ := hs.unCurs
  exact ⟨b, o, gl, he, hx, x0, y0, x1, y1, rfl, hb, ⟨hc 0 _ rfl, hc 1 _ rfl, hc 2 _ rfl, hc 3 _ rfl, hc 4 _ rfl, hc 5 _ rfl, hc 6 _ rfl⟩, hf⟩
theorem ShSl.atMarkAt {w : World} {B : Nat} {A : Option Addr} {n c k : Nat} (h : ShSl w B shMarkAt A n c) (hk : k < n) : ∃ (b o : Nat) (gl : Int) (cl : Int) (x : Int) (y : Int), A = some ⟨b, o, none⟩ ∧ b < B ∧ (w.cell? ⟨b, o + k * 4, none⟩ = some (.int .i64 gl) ∧ w.cell? ⟨b, o + k * 4 + 1, none⟩ = some (.int .i64 cl) ∧ w.cell? ⟨b, o + k * 4 + 2, none⟩ = some (.int .i64 x) ∧ w.cell? ⟨b, o + k * 4 + 3, none⟩ = some (.int .i64 y)) ∧ (Lit.int .i64 gl).wf = true ∧ (Lit.int .i64 cl).wf = true ∧ (Lit.int .i64 x).wf = true ∧ (Lit.int .i64 y).wf = true := by
  obtain ⟨b, o, cs, rfl, hb, _, hc, hs⟩ := h.at_ hk
  obtain ⟨gl, cl, x, y, rfl, hf⟩ := hs.unMarkAt
  exact ⟨b, o, gl, cl, x, y, rfl, hb, ⟨hc 0 _ rfl, hc 1 _ rfl, hc 2 _ rfl, hc 3 _ rfl⟩, hf⟩
theorem ShSl.atSpot {w : World} {B : Nat} {A : Option Addr} {n c k : Nat} (h : ShSl w B shSpot A n c) (hk : k < n) : ∃ (b o : Nat) (ha : Bool) (x : Int) (y : Int), A = some ⟨b, o, none⟩ ∧ b < B ∧ (w.cell? ⟨b, o + k * 3, none⟩ = some (.bool ha) ∧ w.cell? ⟨b, o + k * 3 + 1, none⟩ = some (.int .i64 x) ∧ w.cell? ⟨b, o + k * 3 + 2, none⟩ = some (.int .i64 y)) ∧ True ∧ (Lit.int .i64 x).wf = true ∧ (Lit.int .i64 y).wf = true := by
  obtain ⟨b, o, cs, rfl, hb, _, hc, hs⟩ := h.at_ hk
  obtain ⟨ha, x, y, rfl, hf⟩ := hs.unSpot
  exact ⟨b, o, ha, x, y, rfl, hb, ⟨hc 0 _ rfl, hc 1 _ rfl, hc 2 _ rfl⟩, hf⟩
theorem ShSl.atHost {w : World} {B : Nat} {A : Option Addr} {n c k : Nat} (h : ShSl w B shHost A n c) (hk : k < n) : ∃ (b o : Nat) (gl : Int) (Asp : Option Addr) (nsp csp : Nat), A = some ⟨b, o, none⟩ ∧ b < B ∧ (w.cell? ⟨b, o + k * 2, none⟩ = some (.int .i64 gl) ∧ w.cell? ⟨b, o + k * 2 + 1, none⟩ = some (.slice Asp nsp csp)) ∧ (Lit.int .i64 gl).wf = true ∧ ShSl w B (Sh.sl shSpot) Asp nsp csp := by
  obtain ⟨b, o, cs, rfl, hb, _, hc, hs⟩ := h.at_ hk
  obtain ⟨gl, Asp, nsp, csp, rfl, hf⟩ := hs.unHost
  exact ⟨b, o, gl, Asp, nsp, csp, rfl, hb, ⟨hc 0 _ rfl, hc 1 _ rfl⟩, hf⟩
theorem ShSl.atSub {w : World} {B : Nat} {A : Option Addr} {n c k : Nat} (h : ShSl w B shSub A n c) (hk : k < n) : ∃ (b o : Nat) (Aco : Option Addr) (nco cco : Nat) (Ato : Option Addr) (nto cto : Nat) (Ali : Option Addr) (nli cli : Nat) (Aba : Option Addr) (nba cba : Nat) (Ain : Option Addr) (nin cin : Nat) (Aah : Option Addr) (nah cah : Nat) (Ane : Option Addr) (nne cne : Nat) (Ava : Option Addr) (nva cva : Nat) (Apr : Option Addr) (npr cpr : Nat) (Acu : Option Addr) (ncu ccu : Nat) (Ama : Option Addr) (nma cma : Nat) (Aho : Option Addr) (nho cho : Nat), A = some ⟨b, o, none⟩ ∧ b < B ∧ (w.cell? ⟨b, o + k * 12, none⟩ = some (.slice Aco nco cco) ∧ w.cell? ⟨b, o + k * 12 + 1, none⟩ = some (.slice Ato nto cto) ∧ w.cell? ⟨b, o + k * 12 + 2, none⟩ = some (.slice Ali nli cli) ∧ w.cell? ⟨b, o + k * 12 + 3, none⟩ = some (.slice Aba nba cba) ∧ w.cell? ⟨b, o + k * 12 + 4, none⟩ = some (.slice Ain nin cin) ∧ w.cell? ⟨b, o + k * 12 + 5, none⟩ = some (.slice Aah nah cah) ∧ w.cell? ⟨b, o + k * 12 + 6, none⟩ = some (.slice Ane nne cne) ∧ w.cell? ⟨b, o + k * 12 + 7, none⟩ = some (.slice Ava nva cva) ∧ w.cell? ⟨b, o + k * 12 + 8, none⟩ = some (.slice Apr npr cpr) ∧ w.cell? ⟨b, o + k * 12 + 9, none⟩ = some (.slice Acu ncu ccu) ∧ w.cell? ⟨b, o + k * 12 + 10, none⟩ = some (.slice Ama nma cma) ∧ w.cell? ⟨b, o + k * 12 + 11, none⟩ = some (.slice Aho nho cho)) ∧ ShSl w B (Sh.int .i64) Aco nco cco ∧ ShSl w B shInts Ato nto cto ∧ ShSl w B (Sh.sl shLig) Ali nli cli ∧ ShSl w B shInts Aba nba cba ∧ ShSl w B shInts Ain nin cin ∧ ShSl w B shInts Aah nah cah ∧ ShSl w B shNest Ane nne cne ∧ ShSl w B shValue Ava nva cva ∧ ShSl w B shPair Apr npr cpr ∧ ShSl w B shCurs Acu ncu ccu ∧ ShSl w B shMarkAt Ama nma cma ∧ ShSl w B shHost Aho nho cho := by
  obtain ⟨b, o, cs, rfl, hb, _, hc, hs⟩ := h.at_ hk
  obtain ⟨Aco, nco, cco, Ato, nto, cto, Ali, nli, cli, Aba, nba, cba, Ain, nin, cin, Aah, nah, cah, Ane, nne, cne, Ava, nva, cva, Apr, npr, cpr, Acu, ncu, ccu, Ama, nma, cma, Aho, nho, cho, rfl, hf⟩ := hs.unSub
  exact ⟨b, o, Aco, nco, cco, Ato, nto, cto, Ali, nli, cli, Aba, nba, cba, Ain, nin, cin, Aah, nah, cah, Ane, nne, cne, Ava, nva, cva, Apr, npr, cpr, Acu, ncu, ccu, Ama, nma, cma, Aho, nho, cho, rfl, hb, ⟨hc 0 _ rfl, hc 1 _ rfl, hc 2 _ rfl, hc 3 _ rfl, hc 4 _ rfl, hc 5 _ rfl, hc 6 _ rfl, hc 7 _ rfl, hc 8 _ rfl, hc 9 _ rfl, hc 10 _ rfl, hc 11 _ rfl⟩, hf⟩
theorem ShSl.atLookup {w : World} {B : Nat} {A : Option Addr} {n c k : Nat} (h : ShSl w B shLookup A n c) (hk : k < n) : ∃ (b o : Nat) (ki : Int) (fl : Int) (se : Int) (Asu : Option Addr) (nsu csu : Nat), A = some ⟨b, o, none⟩ ∧ b < B ∧ (w.cell? ⟨b, o + k * 4, none⟩ = some (.int .i64 ki) ∧ w.cell? ⟨b, o + k * 4 + 1, none⟩ = some (.int .i64 fl) ∧ w.cell? ⟨b, o + k * 4 + 2, none⟩ = some (.int .i64 se) ∧ w.cell? ⟨b, o + k * 4 + 3, none⟩ = some (.slice Asu nsu csu)) ∧ (Lit.int .i64 ki).wf = true ∧ (Lit.int .i64 fl).wf = true ∧ (Lit.int .i64 se).wf = true ∧ ShSl w B shSub Asu nsu csu := by
  obtain ⟨b, o, cs, rfl, hb, _, hc, hs⟩ := h.at_ hk
  obtain ⟨ki, fl, se, Asu, nsu, csu, rfl, hf⟩ := hs.unLookup
  exact ⟨b, o, ki, fl, se, Asu, nsu, csu, rfl, hb, ⟨hc 0 _ rfl, hc 1 _ rfl, hc 2 _ rfl, hc 3 _ rfl⟩, hf⟩
theorem ShSl.atFeat {w : World} {B : Nat} {A : Option Addr} {n c k : Nat} (h : ShSl w B shFeat A n c) (hk : k < n) : ∃ (b o : Nat) (ta : ByteArray) (sc : Int) (Alo : Option Addr) (nlo clo : Nat), A = some ⟨b, o, none⟩ ∧ b < B ∧ (w.cell? ⟨b, o + k * 3, none⟩ = some (.string ta) ∧ w.cell? ⟨b, o + k * 3 + 1, none⟩ = some (.int .i64 sc) ∧ w.cell? ⟨b, o + k * 3 + 2, none⟩ = some (.slice Alo nlo clo)) ∧ ta.size ≤ maxLen ∧ (Lit.int .i64 sc).wf = true ∧ ShSl w B (Sh.int .i64) Alo nlo clo := by
  obtain ⟨b, o, cs, rfl, hb, _, hc, hs⟩ := h.at_ hk
  obtain ⟨ta, sc, Alo, nlo, clo, rfl, hf⟩ := hs.unFeat
  exact ⟨b, o, ta, sc, Alo, nlo, clo, rfl, hb, ⟨hc 0 _ rfl, hc 1 _ rfl, hc 2 _ rfl⟩, hf⟩
theorem ShSl.atGlyph {w : World} {B : Nat} {A : Option Addr} {n c k : Nat} (h : ShSl w B shGlyph A n c) (hk : k < n) : ∃ (b o : Nat) (id : Int) (cl : Int) (ad : Int) (dx : Int) (dy : Int) (to : Int) (ha : Int) (li : Int) (co : Int) (ma : Int), A = some ⟨b, o, none⟩ ∧ b < B ∧ (w.cell? ⟨b, o + k * 10, none⟩ = some (.int .i64 id) ∧ w.cell? ⟨b, o + k * 10 + 1, none⟩ = some (.int .i64 cl) ∧ w.cell? ⟨b, o + k * 10 + 2, none⟩ = some (.int .i64 ad) ∧ w.cell? ⟨b, o + k * 10 + 3, none⟩ = some (.int .i64 dx) ∧ w.cell? ⟨b, o + k * 10 + 4, none⟩ = some (.int .i64 dy) ∧ w.cell? ⟨b, o + k * 10 + 5, none⟩ = some (.int .i64 to) ∧ w.cell? ⟨b, o + k * 10 + 6, none⟩ = some (.int .i64 ha) ∧ w.cell? ⟨b, o + k * 10 + 7, none⟩ = some (.int .i64 li) ∧ w.cell? ⟨b, o + k * 10 + 8, none⟩ = some (.int .i64 co) ∧ w.cell? ⟨b, o + k * 10 + 9, none⟩ = some (.int .i64 ma)) ∧ (Lit.int .i64 id).wf = true ∧ (Lit.int .i64 cl).wf = true ∧ (Lit.int .i64 ad).wf = true ∧ (Lit.int .i64 dx).wf = true ∧ (Lit.int .i64 dy).wf = true ∧ (Lit.int .i64 to).wf = true ∧ (Lit.int .i64 ha).wf = true ∧ (Lit.int .i64 li).wf = true ∧ (Lit.int .i64 co).wf = true ∧ (Lit.int .i64 ma).wf = true := by
  obtain ⟨b, o, cs, rfl, hb, _, hc, hs⟩ := h.at_ hk
  obtain ⟨id, cl, ad, dx, dy, to, ha, li, co, ma, rfl, hf⟩ := hs.unGlyph
  exact ⟨b, o, id, cl, ad, dx, dy, to, ha, li, co, ma, rfl, hb, ⟨hc 0 _ rfl, hc 1 _ rfl, hc 2 _ rfl, hc 3 _ rfl, hc 4 _ rfl, hc 5 _ rfl, hc 6 _ rfl, hc 7 _ rfl, hc 8 _ rfl, hc 9 _ rfl⟩, hf⟩

/-- an element of a slice of lists -/
theorem ShSl.atInts {w : World} {B : Nat} {A : Option Addr} {n c k : Nat} (h : ShSl w B shInts A n c) (hk : k < n) : ∃ (b o : Nat) (A' : Option Addr) (n' c' : Nat), A = some ⟨b, o, none⟩ ∧ b < B ∧ w.cell? ⟨b, o + k, none⟩ = some (.slice A' n' c') ∧ ShSl w B (.int .i64) A' n' c' := by
  obtain ⟨b, o, cs, rfl, hb, _, hc, hs⟩ := h.at_ hk
  obtain ⟨A', n', c', rfl, hs'⟩ := Shd.slice hs
  exact ⟨b, o, A', n', c', rfl, hb, by simpa [shInts, Sh.size] using hc 0 _ rfl, hs'⟩
theorem ShSl.atSl {w : World} {B : Nat} {e : Sh} {A : Option Addr} {n c k : Nat} (h : ShSl w B (.sl e) A n c) (hk : k < n) : ∃ (b o : Nat) (A' : Option Addr) (n' c' : Nat), A = some ⟨b, o, none⟩ ∧ b < B ∧ w.cell? ⟨b, o + k, none⟩ = some (.slice A' n' c') ∧ ShSl w B e A' n' c' := by
  obtain ⟨b, o, cs, rfl, hb, _, hc, hs⟩ := h.at_ hk
  obtain ⟨A', n', c', rfl, hs'⟩ := Shd.slice hs
  exact ⟨b, o, A', n', c', rfl, hb, by simpa [Sh.size] using hc 0 _ rfl, hs'⟩

/-- a font as it is handed on -/
structure Fnt where
  em : Int
  GA : Option Addr
  gn : Nat
  gc : Nat
  MA : Option Addr
  mn : Nat
  mc : Nat
  LA : Option Addr
  ln : Nat
  lc : Nat
  FA : Option Addr
  fn : Nat
  fc : Nat
  SA : Option Addr
  sn : Nat
  sc : Nat
/-- what a font reads as, below block B -/
structure FntOk (w : World) (B : Nat) (F : Fnt) : Prop where
  hG : ShSl w B shInfo F.GA F.gn F.gc
  hM : ShSl w B shMap F.MA F.mn F.mc
  hL : ShSl w B shLookup F.LA F.ln F.lc
  hF : ShSl w B shFeat F.FA F.fn F.fc
  hS : ShSl w B shInts F.SA F.sn F.sc
theorem FntOk.below {w w' : World} {B : Nat} {F : Fnt} (h : FntOk w B F) (hb : Below B w w') : FntOk w' B F := ⟨h.hG.below hb, h.hM.below hb, h.hL.below hb, h.hF.below hb, h.hS.below hb⟩

theorem fitFont : shOk Try.prog 12 28 shFont = true := by kernel_rfl
theorem fitGlyphs : shOk Try.prog 12 30 (.sl shGlyph) = true := by kernel_rfl

end Go.Proofs.Ytngdolmmaiogiaa
