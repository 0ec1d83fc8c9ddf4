/- axis.Join, walked by hand: the two readers and the writer told by one word. -/
import Derived.Test.YtefhcgnamfnkbaaDoorRd
import Derived.Test.YtefhcgnamfnkbaaDoorAxLen
namespace Go.Proofs.YtefhcgnamfnkbaaDoor.Pr
open Go.RowKit Go.Proofs.YtefhcgnamfnkbaaDoorW.PrintWords Go.Proofs.YtefhcgnamfnkbaaDoorW.PrintLast Go.Proofs.YtefhcgnamfnkbaaDoorW.PrintMore

theorem Rd.ap {N B g p : Nat} {w w' : World} {s : List S127} {u : Int} (h : Rd N w p s u) (k : Ap B g w w') (hp : p < B) (hne : p ≠ g) (hN : N ≤ g) : Rd N w' p s u := by
  obtain ⟨A, c, h1, h2, h3, h4⟩ := h
  exact ⟨A, c, (k.block p hp hne).trans h1, h2.move (fun a x r e1 e2 => k.block _ (by have := h3 a x r e1 e2; omega) (by have := h3 a x r e1 e2; omega)), h3, h4⟩
theorem Wr.ap {B p g : Nat} {w w' : World} {l : List S127} {a c : Int} (h : Wr B w g l a c) (k : Ap w.heap.size p w w') (hne : g ≠ p) (hp : p < B) : Wr B w' g l a c := by
  obtain ⟨A, cap, h1, h2, h3, h4⟩ := h
  refine ⟨A, cap, (k.block g (blk_lt h1) hne).trans h1, h2, Nat.le_trans h3 k.size, own_move h4 (fun i hi => k.block i (own_lt h4 i hi) ?_)⟩
  have := own_base h4 i hi
  omega
structure Jn (w0 : World) (B g p q : Nat) (w : World) (P : List S127) (u : Int) (Q : List S127) (v : Int) (l : List S127) (a c : Int) : Prop where
  rp : Rd w0.heap.size w p P u
  rq : Rd w0.heap.size w q Q v
  wr : Wr B w g l a c
  bw : Below w0.heap.size w0 w
  pB : p < B
  qB : q < B
  pq : p ≠ q
  pg : p ≠ g
  qg : q ≠ g
  ng : w0.heap.size ≤ g
variable {w0 w w' : World} {B g p q : Nat} {P Q s t : List S127} {x y : S127} {u v : Int} {l : List S127} {a c : Int}
theorem Rd.lt {N : Nat} (h : Rd N w p P u) : p < w.heap.size := by
  obtain ⟨A, c, h1, _⟩ := h
  exact blk_lt h1
theorem Rd.le {N : Nat} (h : Rd N w p P u) : N ≤ p := by
  obtain ⟨A, c, _, _, _, h4⟩ := h
  exact h4
theorem Jn.up (h : Jn w0 B g p q w P u Q v l a c) (k : Below w.heap.size w w') : Jn w0 B g p q w' P u Q v l a c :=
  ⟨h.rp.up k, h.rq.up k, h.wr.up k, below_step h.bw k, h.pB, h.qB, h.pq, h.pg, h.qg, h.ng⟩
theorem Jn.put {l' : List S127} {a' c' : Int} (h : Jn w0 B g p q w P u Q v l a c) (hw : Wr B w' g l' a' c') (k : Ap B g w w') : Jn w0 B g p q w' P u Q v l' a' c' :=
  ⟨h.rp.ap k h.pB h.pg h.ng, h.rq.ap k h.qB h.qg h.ng, hw, Ap.then h.bw k h.ng (by have := h.rp.le; have := h.pB; omega), h.pB, h.qB, h.pq, h.pg, h.qg, h.ng⟩
theorem Jn.tp {P' : List S127} {u' : Int} (h : Jn w0 B g p q w P u Q v l a c) (hr : Rd w0.heap.size w' p P' u') (k : Ap w.heap.size p w w') : Jn w0 B g p q w' P' u' Q v l a c :=
  ⟨hr, h.rq.ap k h.rq.lt h.pq.symm h.rp.le, h.wr.ap k h.pg.symm h.pB, Ap.then h.bw k h.rp.le h.bw.size, h.pB, h.qB, h.pq, h.pg, h.qg, h.ng⟩
theorem Jn.tq {Q' : List S127} {v' : Int} (h : Jn w0 B g p q w P u Q v l a c) (hr : Rd w0.heap.size w' q Q' v') (k : Ap w.heap.size q w w') : Jn w0 B g p q w' P u Q' v' l a c :=
  ⟨h.rp.ap k h.rp.lt h.pq h.rq.le, hr, h.wr.ap k h.qg.symm h.qB, Ap.then h.bw k h.rq.le h.bw.size, h.pB, h.qB, h.pq, h.pg, h.qg, h.ng⟩
theorem jkp (h : Jn w0 B g p q w (x :: s) u Q v l a c) : Calls Tryd.prog 63 #[.pointer (some ⟨p, 0, none⟩)] w fun r w' => r = .returned (.int .i64 x.f0) ∧ Jn w0 B g p q w' (x :: s) u Q v l a c :=
  (kind_calls _ p _ u w h.rp).mono fun _ _ ⟨e, k⟩ => ⟨e, h.up k⟩
theorem jkp0 (h : Jn w0 B g p q w [] u Q v l a c) : Calls Tryd.prog 63 #[.pointer (some ⟨p, 0, none⟩)] w fun r w' => r = .returned (.int .i64 (-1)) ∧ Jn w0 B g p q w' [] u Q v l a c :=
  (kind_calls _ p _ u w h.rp).mono fun _ _ ⟨e, k⟩ => ⟨e, h.up k⟩
theorem jkq (h : Jn w0 B g p q w P u (y :: t) v l a c) : Calls Tryd.prog 63 #[.pointer (some ⟨q, 0, none⟩)] w fun r w' => r = .returned (.int .i64 y.f0) ∧ Jn w0 B g p q w' P u (y :: t) v l a c :=
  (kind_calls _ q _ v w h.rq).mono fun _ _ ⟨e, k⟩ => ⟨e, h.up k⟩
theorem jkq0 (h : Jn w0 B g p q w P u [] v l a c) : Calls Tryd.prog 63 #[.pointer (some ⟨q, 0, none⟩)] w fun r w' => r = .returned (.int .i64 (-1)) ∧ Jn w0 B g p q w' P u [] v l a c :=
  (kind_calls _ q _ v w h.rq).mono fun _ _ ⟨e, k⟩ => ⟨e, h.up k⟩
theorem jlp (h : Jn w0 B g p q w (x :: s) u Q v l a c) : Calls Tryd.prog 65 #[.pointer (some ⟨p, 0, none⟩)] w fun r w' => r = .returned (.int .i64 (wrap64 (x.f1 - u))) ∧ Jn w0 B g p q w' (x :: s) u Q v l a c :=
  (left_calls _ p x s u w h.rp).mono fun _ _ ⟨e, k⟩ => ⟨e, h.up k⟩
theorem jlq (h : Jn w0 B g p q w P u (y :: t) v l a c) : Calls Tryd.prog 65 #[.pointer (some ⟨q, 0, none⟩)] w fun r w' => r = .returned (.int .i64 (wrap64 (y.f1 - v))) ∧ Jn w0 B g p q w' P u (y :: t) v l a c :=
  (left_calls _ q y t v w h.rq).mono fun _ _ ⟨e, k⟩ => ⟨e, h.up k⟩
theorem jtp (n : Int) (h : Jn w0 B g p q w (x :: s) u Q v l a c) : Calls Tryd.prog 66 #[.pointer (some ⟨p, 0, none⟩), .int .i64 n] w fun r w' => r = .returned (.tuple #[]) ∧ Jn w0 B g p q w' (takeN x s u n).1 (takeN x s u n).2 Q v l a c :=
  (take_calls _ p x s u n w h.rp).mono fun _ _ ⟨e, k, m⟩ => ⟨e, h.tp k m⟩
theorem jtq (n : Int) (h : Jn w0 B g p q w P u (y :: t) v l a c) : Calls Tryd.prog 66 #[.pointer (some ⟨q, 0, none⟩), .int .i64 n] w fun r w' => r = .returned (.tuple #[]) ∧ Jn w0 B g p q w' P u (takeN y t v n).1 (takeN y t v n).2 l a c :=
  (take_calls _ q y t v n w h.rq).mono fun _ _ ⟨e, k, m⟩ => ⟨e, h.tq k m⟩
theorem jput (kind n : Int) (hl : l.length + 3 ≤ 1099511627776) (h : Jn w0 B g p q w P u Q v l a c) : Calls Tryd.prog 64 #[.pointer (some ⟨g, 0, none⟩), .int .i64 kind, .int .i64 n] w fun r w' => r = .returned (.tuple #[]) ∧ Jn w0 B g p q w' P u Q v (putN l a c kind n).1 (putN l a c kind n).2.1 (putN l a c kind n).2.2 :=
  (put_calls B g l a c kind n w h.wr hl).mono fun _ _ ⟨e, k, m⟩ => ⟨e, h.put k m⟩
/-- The rounds of Join. -/
def joinN : Nat → List S127 → Int → List S127 → Int → List S127 → Int → Int → Option (List S127 × Int × Int)
  | 0, _, _, _, _, _, _, _ => none
  | k + 1, P, u, Q, v, l, a, c =>
    if l.length + 3 ≤ 1099511627776 then
      match P with
      | [] => match Q with
        | [] => some (l, a, c)
        | y :: t => if y.f0 = 1 then joinN k [] u (takeN y t v (wrap64 (y.f1 - v))).1 (takeN y t v (wrap64 (y.f1 - v))).2 (putN l a c 1 (wrap64 (y.f1 - v))).1 (putN l a c 1 (wrap64 (y.f1 - v))).2.1 (putN l a c 1 (wrap64 (y.f1 - v))).2.2 else none
      | x :: s =>
        if x.f0 = 2 then joinN k (takeN x s u (wrap64 (x.f1 - u))).1 (takeN x s u (wrap64 (x.f1 - u))).2 Q v (putN l a c 2 (wrap64 (x.f1 - u))).1 (putN l a c 2 (wrap64 (x.f1 - u))).2.1 (putN l a c 2 (wrap64 (x.f1 - u))).2.2
        else match Q with
        | [] => none
        | y :: t =>
          if x.f0 = 0 ∨ x.f0 = 1 then
            if y.f0 = 1 then joinN k (x :: s) u (takeN y t v (wrap64 (y.f1 - v))).1 (takeN y t v (wrap64 (y.f1 - v))).2 (putN l a c 1 (wrap64 (y.f1 - v))).1 (putN l a c 1 (wrap64 (y.f1 - v))).2.1 (putN l a c 1 (wrap64 (y.f1 - v))).2.2
            else if y.f0 = 0 ∨ y.f0 = 2 then
              if x.f0 = 0 then joinN k (takeN x s u (mn (wrap64 (x.f1 - u)) (wrap64 (y.f1 - v)))).1 (takeN x s u (mn (wrap64 (x.f1 - u)) (wrap64 (y.f1 - v)))).2 (takeN y t v (mn (wrap64 (x.f1 - u)) (wrap64 (y.f1 - v)))).1 (takeN y t v (mn (wrap64 (x.f1 - u)) (wrap64 (y.f1 - v)))).2 (putN l a c y.f0 (mn (wrap64 (x.f1 - u)) (wrap64 (y.f1 - v)))).1 (putN l a c y.f0 (mn (wrap64 (x.f1 - u)) (wrap64 (y.f1 - v)))).2.1 (putN l a c y.f0 (mn (wrap64 (x.f1 - u)) (wrap64 (y.f1 - v)))).2.2
              else if y.f0 = 0 then joinN k (takeN x s u (mn (wrap64 (x.f1 - u)) (wrap64 (y.f1 - v)))).1 (takeN x s u (mn (wrap64 (x.f1 - u)) (wrap64 (y.f1 - v)))).2 (takeN y t v (mn (wrap64 (x.f1 - u)) (wrap64 (y.f1 - v)))).1 (takeN y t v (mn (wrap64 (x.f1 - u)) (wrap64 (y.f1 - v)))).2 (putN l a c 1 (mn (wrap64 (x.f1 - u)) (wrap64 (y.f1 - v)))).1 (putN l a c 1 (mn (wrap64 (x.f1 - u)) (wrap64 (y.f1 - v)))).2.1 (putN l a c 1 (mn (wrap64 (x.f1 - u)) (wrap64 (y.f1 - v)))).2.2
              else joinN k (takeN x s u (mn (wrap64 (x.f1 - u)) (wrap64 (y.f1 - v)))).1 (takeN x s u (mn (wrap64 (x.f1 - u)) (wrap64 (y.f1 - v)))).2 (takeN y t v (mn (wrap64 (x.f1 - u)) (wrap64 (y.f1 - v)))).1 (takeN y t v (mn (wrap64 (x.f1 - u)) (wrap64 (y.f1 - v)))).2 l a c
            else none
          else none
    else none
end Go.Proofs.YtefhcgnamfnkbaaDoor.Pr
