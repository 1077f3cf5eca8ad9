/- A path is drawn: by operations on a zero path, then seldom spoilt. What the drawing carries from step to step. -/
import Derived.Test.YteajojhfcllodaaDraw3
import Derived.Test.YteajojhfcllodaaNetPlain
import Derived.Test.YteajojhfcllodaaPathBProbe
import Derived.Test.YteajojhfcllodaaPathBAnswer
import Derived.Test.YteajojhfcllodaaPathBTick
import Derived.Test.YteajojhfcllodaaPathBReceive
import Derived.Test.YteajojhfcllodaaPathBSend
namespace Go.Proofs.Yteajojhfcllodaa
open Go.RowKit

/-- A path was drawn by at most k picks. -/
def DrawnPath (w : World) (B rb n k : Nat) (e : Ending) (w' : World) : Prop :=
  ∃ q : Pth, e = .returned (.agg #[.int .i64 q.s, .int .i64 q.t, .int .i64 q.r, .int .i64 q.x, .int .i64 q.d]) ∧ Bd q ∧ Rd w' B rb (n + k) ∧ w.grownBy w' (some rb)

/-- The drawing began in w; the path lies in its second block, the result in its first. -/
def Net (w wr : World) (B rb m : Nat) (q : Pth) : Prop :=
  Rd wr B rb m ∧ C5 wr (w.heap.size + 1) q ∧ C5 wr w.heap.size pzero ∧ w.grownBy wr (some rb) ∧ rb < w.heap.size

section
variable {w wr : World} {B rb m : Nat} {q : Pth}
theorem Net.rd (h : Net w wr B rb m q) : Rd wr B rb m := h.1
theorem Net.c5 (h : Net w wr B rb m q) : C5 wr (w.heap.size + 1) q := h.2.1
theorem Net.cells (h : Net w wr B rb m q) : wr.cell? ⟨w.heap.size + 1, 0, none⟩ = some (.int .i64 q.s) ∧ wr.cell? ⟨w.heap.size + 1, 1, none⟩ = some (.int .i64 q.t) ∧ wr.cell? ⟨w.heap.size + 1, 2, none⟩ = some (.int .i64 q.r) ∧ wr.cell? ⟨w.heap.size + 1, 3, none⟩ = some (.int .i64 q.x) ∧ wr.cell? ⟨w.heap.size + 1, 4, none⟩ = some (.int .i64 q.d) := h.2.1.1
theorem Net.pick {w1 : World} {j : Nat} (h : Net w wr B rb m q) (hr : Rd w1 B rb (m + j)) (hg : wr.grownBy w1 (some rb)) : Net w w1 B rb (m + j) q := by
  obtain ⟨_, hP, hR, hG, hlt⟩ := h
  exact ⟨hr, hP.far hg (by omega), hR.far hg (by omega), grown_trans hG hg, hlt⟩
theorem Net.drew (h : Net w wr B rb m q) : Net w wr.drew B rb m q := by
  obtain ⟨hr, hP, hR, hG, hlt⟩ := h
  exact ⟨hr.drewN 1, hP.drew, hR.drew, grown_drew hG, hlt⟩
theorem Net.alloc (h : Net w wr B rb m q) (o : Obj) : Net w (wr.alloc o) B rb m q := by
  obtain ⟨hr, hP, hR, hG, hlt⟩ := h
  exact ⟨hr.alloc o, hP.alloc o, hR.alloc o, grown_alloc hG o, hlt⟩
theorem Net.mono {m' : Nat} (h : Net w wr B rb m q) (hm : m ≤ m') : Net w wr B rb m' q := ⟨h.1.mono hm, h.2⟩
theorem Net.set0 (h : Net w wr B rb m q) (n : Int) : Net w (wr.setCell ⟨w.heap.size + 1, 0, none⟩ (.int .i64 n)) B rb m { q with s := n } := by
  obtain ⟨hr, hP, hR, hG, hlt⟩ := h
  exact ⟨hr.setCell (by show rb < w.heap.size + 1; omega) _, hP.set0 n, hR.other (by simp) _, grown_setCell hG (by simp) _, hlt⟩
theorem Net.set1 (h : Net w wr B rb m q) (n : Int) : Net w (wr.setCell ⟨w.heap.size + 1, 1, none⟩ (.int .i64 n)) B rb m { q with t := n } := by
  obtain ⟨hr, hP, hR, hG, hlt⟩ := h
  exact ⟨hr.setCell (by show rb < w.heap.size + 1; omega) _, hP.set1 n, hR.other (by simp) _, grown_setCell hG (by simp) _, hlt⟩
theorem Net.set2 (h : Net w wr B rb m q) (n : Int) : Net w (wr.setCell ⟨w.heap.size + 1, 2, none⟩ (.int .i64 n)) B rb m { q with r := n } := by
  obtain ⟨hr, hP, hR, hG, hlt⟩ := h
  exact ⟨hr.setCell (by show rb < w.heap.size + 1; omega) _, hP.set2 n, hR.other (by simp) _, grown_setCell hG (by simp) _, hlt⟩
theorem Net.set3 (h : Net w wr B rb m q) (n : Int) : Net w (wr.setCell ⟨w.heap.size + 1, 3, none⟩ (.int .i64 n)) B rb m { q with x := n } := by
  obtain ⟨hr, hP, hR, hG, hlt⟩ := h
  exact ⟨hr.setCell (by show rb < w.heap.size + 1; omega) _, hP.set3 n, hR.other (by simp) _, grown_setCell hG (by simp) _, hlt⟩
theorem Net.set4 (h : Net w wr B rb m q) (n : Int) : Net w (wr.setCell ⟨w.heap.size + 1, 4, none⟩ (.int .i64 n)) B rb m { q with d := n } := by
  obtain ⟨hr, hP, hR, hG, hlt⟩ := h
  exact ⟨hr.setCell (by show rb < w.heap.size + 1; omega) _, hP.set4 n, hR.other (by simp) _, grown_setCell hG (by simp) _, hlt⟩
theorem Net.set (h : Net w wr B rb m q) (p : Pth) :
    Net w (((((wr.setCell ⟨w.heap.size + 1, 0, none⟩ (.int .i64 p.s)).setCell ⟨w.heap.size + 1, 1, none⟩ (.int .i64 p.t)).setCell ⟨w.heap.size + 1, 2, none⟩ (.int .i64 p.r)).setCell ⟨w.heap.size + 1, 3, none⟩ (.int .i64 p.x)).setCell ⟨w.heap.size + 1, 4, none⟩ (.int .i64 p.d)) B rb m p :=
  ((((h.set0 p.s).set1 p.t).set2 p.r).set3 p.x).set4 p.d
end

/-- Besides, block x (made in this round) holds p. -/
def NetX (w wr : World) (B rb m : Nat) (q : Pth) (x : Nat) (p : Pth) : Prop := Net w wr B rb m q ∧ C5 wr x p ∧ w.heap.size + 1 < x

section
variable {w wr : World} {B rb m x : Nat} {q p : Pth}
theorem Net.size (h : Net w wr B rb m q) : w.heap.size + 1 < wr.heap.size := h.c5.lt
theorem Net.makes (h : Net w wr B rb m q) (p : Pth) (t : TypeId) : NetX w (wr.alloc (.cells #[.int .i64 p.s, .int .i64 p.t, .int .i64 p.r, .int .i64 p.x, .int .i64 p.d] t)) B rb m q wr.heap.size p :=
  ⟨h.alloc _, C5.made wr p t, h.size⟩
theorem Net.makes0 (h : Net w wr B rb m q) (t : TypeId) : NetX w (wr.alloc (.cells #[.int .i64 0, .int .i64 0, .int .i64 0, .int .i64 0, .int .i64 0] t)) B rb m q wr.heap.size pzero := h.makes pzero t
theorem NetX.net (h : NetX w wr B rb m q x p) : Net w wr B rb m q := h.1
theorem NetX.c5 (h : NetX w wr B rb m q x p) : C5 wr x p := h.2.1
theorem NetX.rd (h : NetX w wr B rb m q x p) : Rd wr B rb m := h.1.1
theorem NetX.cells (h : NetX w wr B rb m q x p) : wr.cell? ⟨w.heap.size + 1, 0, none⟩ = some (.int .i64 q.s) ∧ wr.cell? ⟨w.heap.size + 1, 1, none⟩ = some (.int .i64 q.t) ∧ wr.cell? ⟨w.heap.size + 1, 2, none⟩ = some (.int .i64 q.r) ∧ wr.cell? ⟨w.heap.size + 1, 3, none⟩ = some (.int .i64 q.x) ∧ wr.cell? ⟨w.heap.size + 1, 4, none⟩ = some (.int .i64 q.d) := h.1.cells
theorem NetX.stored (h : NetX w wr B rb m q x p) (u : Pth) :
    NetX w (((((wr.setCell ⟨x, 0, none⟩ (.int .i64 u.s)).setCell ⟨x, 1, none⟩ (.int .i64 u.t)).setCell ⟨x, 2, none⟩ (.int .i64 u.r)).setCell ⟨x, 3, none⟩ (.int .i64 u.x)).setCell ⟨x, 4, none⟩ (.int .i64 u.d)) B rb m q x u := by
  obtain ⟨⟨hr, hP, hR, hG, hlt⟩, hc, hx⟩ := h
  have h1 : ∀ j : Nat, rb < (⟨x, j, none⟩ : Addr).block := fun j => by show rb < x; omega
  have h2 : ∀ j : Nat, (⟨x, j, none⟩ : Addr).block ≠ w.heap.size + 1 := fun j => by show x ≠ w.heap.size + 1; omega
  have h3 : ∀ j : Nat, (⟨x, j, none⟩ : Addr).block ≠ w.heap.size := fun j => by show x ≠ w.heap.size; omega
  have h4 : ∀ j : Nat, w.heap.size ≤ (⟨x, j, none⟩ : Addr).block := fun j => by show w.heap.size ≤ x; omega
  exact ⟨⟨((((hr.setCell (h1 0) _).setCell (h1 1) _).setCell (h1 2) _).setCell (h1 3) _).setCell (h1 4) _,
    ((((hP.other (h2 0) _).other (h2 1) _).other (h2 2) _).other (h2 3) _).other (h2 4) _,
    ((((hR.other (h3 0) _).other (h3 1) _).other (h3 2) _).other (h3 3) _).other (h3 4) _,
    grown_setCell (grown_setCell (grown_setCell (grown_setCell (grown_setCell hG (h4 0) _) (h4 1) _) (h4 2) _) (h4 3) _) (h4 4) _, hlt⟩, hc.set u, hx⟩

/-- The path is handed back: it is stored in the first block. -/
theorem Net.ret (h : Net w wr B rb m q) (u : Pth) :
    Rd (((((wr.setCell ⟨w.heap.size, 0, none⟩ (.int .i64 u.s)).setCell ⟨w.heap.size, 1, none⟩ (.int .i64 u.t)).setCell ⟨w.heap.size, 2, none⟩ (.int .i64 u.r)).setCell ⟨w.heap.size, 3, none⟩ (.int .i64 u.x)).setCell ⟨w.heap.size, 4, none⟩ (.int .i64 u.d)) B rb m ∧
    w.grownBy (((((wr.setCell ⟨w.heap.size, 0, none⟩ (.int .i64 u.s)).setCell ⟨w.heap.size, 1, none⟩ (.int .i64 u.t)).setCell ⟨w.heap.size, 2, none⟩ (.int .i64 u.r)).setCell ⟨w.heap.size, 3, none⟩ (.int .i64 u.x)).setCell ⟨w.heap.size, 4, none⟩ (.int .i64 u.d)) (some rb) := by
  obtain ⟨hr, hP, hR, hG, hlt⟩ := h
  have h1 : ∀ j : Nat, rb < (⟨w.heap.size, j, none⟩ : Addr).block := fun j => hlt
  have h4 : ∀ j : Nat, w.heap.size ≤ (⟨w.heap.size, j, none⟩ : Addr).block := fun j => Nat.le_refl _
  exact ⟨((((hr.setCell (h1 0) _).setCell (h1 1) _).setCell (h1 2) _).setCell (h1 3) _).setCell (h1 4) _,
    grown_setCell (grown_setCell (grown_setCell (grown_setCell (grown_setCell hG (h4 0) _) (h4 1) _) (h4 2) _) (h4 3) _) (h4 4) _⟩
theorem Net.res (h : Net w wr B rb m q) : C5 wr w.heap.size pzero := h.2.2.1

/-- A pick in the drawing of a path. -/
def NetPicked (w : World) (B rb m : Nat) (q : Pth) (k : Int) (e : Ending) (w' : World) : Prop :=
  ∃ y : Int, e = .returned (.int .i64 y) ∧ 0 ≤ y ∧ y < k ∧ Net w w' B rb (m + 1) q
theorem net_pick (h : Net w wr B rb m q) (hm : m ≤ 1000000) (k : Int) (h1 : 1 ≤ k) (h2 : k ≤ 1000000) : Calls Try.prog 34 #[.pointer (some ⟨rb, 0, none⟩), .int .i64 k] wr (NetPicked w B rb m q k) :=
  (pick_any wr rb m k h.rd (by omega) h1 h2).mono fun _ _ ⟨y, he, h0, hk, hr, hg⟩ => ⟨y, he, h0, hk, h.pick hr hg⟩
def NetXPicked (w : World) (B rb m : Nat) (q : Pth) (x : Nat) (p : Pth) (k : Int) (e : Ending) (w' : World) : Prop :=
  ∃ y : Int, e = .returned (.int .i64 y) ∧ 0 ≤ y ∧ y < k ∧ NetX w w' B rb (m + 1) q x p
theorem NetX.far {w1 : World} {j : Nat} (h : NetX w wr B rb m q x p) (hr : Rd w1 B rb (m + j)) (hg : wr.grownBy w1 (some rb)) : NetX w w1 B rb (m + j) q x p := by
  obtain ⟨hN, hc, hx⟩ := h
  have hlt := hN.2.2.2.2
  exact ⟨hN.pick hr hg, hc.far hg (by omega), hx⟩
theorem netX_pick (h : NetX w wr B rb m q x p) (hm : m ≤ 1000000) (k : Int) (h1 : 1 ≤ k) (h2 : k ≤ 1000000) : Calls Try.prog 34 #[.pointer (some ⟨rb, 0, none⟩), .int .i64 k] wr (NetXPicked w B rb m q x p k) :=
  (pick_any wr rb m k h.rd (by omega) h1 h2).mono fun _ _ ⟨y, he, h0, hk, hr, hg⟩ => ⟨y, he, h0, hk, h.far hr hg⟩
theorem Net.new3 {w1 : World} (h : Net w wr B rb m q) (hn : New3 wr w1) : Net w w1 B rb m q := by
  obtain ⟨a, b, c, rfl⟩ := hn
  exact ((h.alloc a).alloc b).alloc c
theorem NetX.drew (h : NetX w wr B rb m q x p) : NetX w wr.drew B rb m q x p := ⟨h.1.drew, h.2.1.drew, h.2.2⟩
theorem NetX.alloc (h : NetX w wr B rb m q x p) (o : Obj) : NetX w (wr.alloc o) B rb m q x p := ⟨h.1.alloc o, h.2.1.alloc o, h.2.2⟩
theorem NetX.new3 {w1 : World} (h : NetX w wr B rb m q x p) (hn : New3 wr w1) : NetX w w1 B rb m q x p := by
  obtain ⟨a, b, c, rfl⟩ := hn
  exact ((h.alloc a).alloc b).alloc c
end

/-- An operation gave a small path. -/
def Gives2 (w : World) (e : Ending) (w' : World) : Prop :=
  ∃ (q : Pth) (b : Bool), Bd q ∧ e = .returned (.tuple #[.agg #[.int .i64 q.s, .int .i64 q.t, .int .i64 q.r, .int .i64 q.x, .int .i64 q.d], .bool b]) ∧ New3 w w'
def Gives1 (w : World) (e : Ending) (w' : World) : Prop :=
  ∃ q : Pth, Bd q ∧ e = .returned (.agg #[.int .i64 q.s, .int .i64 q.t, .int .i64 q.r, .int .i64 q.x, .int .i64 q.d]) ∧ New3 w w'

section
variable {q : Pth} (hq : Bd q) (w : World)
include hq
theorem probe_gives (tok now tmo : Int) : Calls Try.prog 13 #[.agg #[.int .i64 q.s, .int .i64 q.t, .int .i64 q.r, .int .i64 q.x, .int .i64 q.d], .int .i64 tok, .int .i64 now, .int .i64 tmo] w (Gives2 w) :=
  (probe_spec q.s q.t q.r q.x q.d tok now tmo (probe q tok now tmo).1 (probe q tok now tmo).2 rfl w).mono fun _ _ ⟨he, hw⟩ => ⟨_, _, bd_probe hq (Prod.eta _).symm, he, hw⟩
theorem answer_gives (tok : Int) : Calls Try.prog 39 #[.agg #[.int .i64 q.s, .int .i64 q.t, .int .i64 q.r, .int .i64 q.x, .int .i64 q.d], .int .i64 tok] w (Gives2 w) :=
  (answer_spec q.s q.t q.r q.x q.d tok (answer q tok).1 (answer q tok).2 rfl w).mono fun _ _ ⟨he, hw⟩ => ⟨_, _, bd_answer hq (Prod.eta _).symm, he, hw⟩
theorem receive_gives (size : Int) : Calls Try.prog 21 #[.agg #[.int .i64 q.s, .int .i64 q.t, .int .i64 q.r, .int .i64 q.x, .int .i64 q.d], .int .i64 size] w (Gives2 w) :=
  (receive_spec q.s q.t q.r q.x q.d size (receive q size).1 (receive q size).2 rfl w).mono fun _ _ ⟨he, hw⟩ => ⟨_, _, bd_receive hq (Prod.eta _).symm, he, hw⟩
theorem send_gives (size : Int) : Calls Try.prog 25 #[.agg #[.int .i64 q.s, .int .i64 q.t, .int .i64 q.r, .int .i64 q.x, .int .i64 q.d], .int .i64 size] w (Gives2 w) :=
  (send_spec q.s q.t q.r q.x q.d size (send q size).1 (send q size).2 rfl w).mono fun _ _ ⟨he, hw⟩ => ⟨_, _, bd_send hq (Prod.eta _).symm, he, hw⟩
theorem tick_gives (now : Int) : Calls Try.prog 17 #[.agg #[.int .i64 q.s, .int .i64 q.t, .int .i64 q.r, .int .i64 q.x, .int .i64 q.d], .int .i64 now] w (Gives1 w) :=
  (tick_spec q.s q.t q.r q.x q.d now (tick q now) rfl w).mono fun _ _ ⟨he, hw⟩ => ⟨_, bd_tick hq rfl, he, hw⟩
end

/-- An operation in the drawing of a path. -/
def NetGives (w : World) (B rb m : Nat) (q : Pth) (e : Ending) (w' : World) : Prop :=
  ∃ (q1 : Pth) (b : Bool), Bd q1 ∧ e = .returned (.tuple #[.agg #[.int .i64 q1.s, .int .i64 q1.t, .int .i64 q1.r, .int .i64 q1.x, .int .i64 q1.d], .bool b]) ∧ Net w w' B rb m q
def NetXGives (w : World) (B rb m : Nat) (q : Pth) (x : Nat) (p : Pth) (e : Ending) (w' : World) : Prop :=
  ∃ (q1 : Pth) (b : Bool), Bd q1 ∧ e = .returned (.tuple #[.agg #[.int .i64 q1.s, .int .i64 q1.t, .int .i64 q1.r, .int .i64 q1.x, .int .i64 q1.d], .bool b]) ∧ NetX w w' B rb m q x p
section
variable {w wr : World} {B rb m x : Nat} {q p : Pth} {f : FuncId} {args : Array Value}
theorem net_gives (h : Net w wr B rb m q) (hc : Calls Try.prog f args wr (Gives2 wr)) : Calls Try.prog f args wr (NetGives w B rb m q) :=
  hc.mono fun _ _ ⟨q1, b, hq1, he, hn⟩ => ⟨q1, b, hq1, he, h.new3 hn⟩
theorem netX_gives (h : NetX w wr B rb m q x p) (hc : Calls Try.prog f args wr (Gives2 wr)) : Calls Try.prog f args wr (NetXGives w B rb m q x p) :=
  hc.mono fun _ _ ⟨q1, b, hq1, he, hn⟩ => ⟨q1, b, hq1, he, h.new3 hn⟩
def NetGives1 (w : World) (B rb m : Nat) (q : Pth) (e : Ending) (w' : World) : Prop :=
  ∃ q1 : Pth, Bd q1 ∧ e = .returned (.agg #[.int .i64 q1.s, .int .i64 q1.t, .int .i64 q1.r, .int .i64 q1.x, .int .i64 q1.d]) ∧ Net w w' B rb m q
theorem net_gives1 (h : Net w wr B rb m q) (hc : Calls Try.prog f args wr (Gives1 wr)) : Calls Try.prog f args wr (NetGives1 w B rb m q) :=
  hc.mono fun _ _ ⟨q1, hq1, he, hn⟩ => ⟨q1, hq1, he, h.new3 hn⟩
def NetNum (w : World) (B rb m : Nat) (q : Pth) (k : Nat) (lo hi : Int) (e : Ending) (w' : World) : Prop :=
  ∃ v : Int, e = .returned (.int .i64 v) ∧ lo ≤ v ∧ v ≤ hi ∧ Net w w' B rb (m + k) q
theorem net_num {k : Nat} {lo hi : Int} (h : Net w wr B rb m q) (hc : Calls Try.prog f args wr (Drawn wr B rb m k lo hi)) : Calls Try.prog f args wr (NetNum w B rb m q k lo hi) :=
  hc.mono fun _ _ ⟨v, he, h0, h1, hr, hg⟩ => ⟨v, he, h0, h1, h.pick hr hg⟩
end

end Go.Proofs.Yteajojhfcllodaa
