/- An append of a list onto a row of the call's own, as a step of a region that draws; the rest of a slice. No program. -/
import Derived.Test.YtgjhjabnnhhkbaaRow
import Derived.Deep.RegionLaw
namespace Go.Proofs.Ytgjhjabnnhhkbaa
open Go.RowKit

theorem step_append_sl {P : Program} {α : Type} {enc : α → List Value} {k : Nat} {ops : Array Oper} {o : Oper} {a : Act} {w : World} {K : Act → World → Prop} {Q : Exit → Act → World → Prop} {E : Prop}
    (hgd : o.guard = none) (s x : Operand) (t : TypeId)
    (ho : o.op = .call { callee := .builtin .append, args := #[s, x], argTypes := #[t, t] })
    (base : Nat) (e : TypeId) (i : TypeInfo) (z : Value) (bytes : Nat) (ht : P.underlying t = some (.slice e)) (hi : P.info? e = some i) (hz : i.zero = some z)
    (hsize : i.size = k) (hby : i.bytes = bytes) (hzs : z.cells.size = k) (hk0 : 0 < k) (hk : ∀ x, (enc x).length = k) (h1 : ∀ x, ∀ u ∈ enc x, u.oneCell' = true)
    (v : Value) (n : Nat) (ys : List Value) (hsv : a.eval s = v) (hown : w.ownsRow base e k v n ys)
    {B : Nat} (A : Option Addr) (m c : Nat) {xs : List α} (hx : a.eval x = .slice A m c) (hs : Sl enc k w B A m c xs)
    (hnm : n + m ≤ maxLen) (hbytes : (n + m) * bytes ≤ 140737488355328) (hbase : base ≤ w.heap.size)
    (h : ∀ v' w', w'.ownsRow base e k v' (n + m) (ys ++ xs.flatMap enc) → w.grownBy w' v.ownBlock → (v'.ownBlock = v.ownBlock ∨ v'.ownBlock = some w.heap.size) → K (a.put o.dst v') w') :
    if Region.wanted o (yielded ops a.tmps) = true then Oper.wp P o a w K Q else E := by
  have hw : Region.wanted o (yielded ops a.tmps) = true := by simp [Region.wanted, hgd]
  rw [if_pos hw]
  obtain ⟨v', w', hr, h2, h3, h4⟩ := run_append_sl (P := P) w base t o.type e i z bytes ht hi hz hsize hby hzs hk0 hk h1 v n ys hown hs hnm hbytes hbase
  unfold Oper.wp execOp
  simp only [ho, resolve, invoke, builtin, Sem.run_bind, Sem.run_pure, Result.andThen_ok, List.map_toArray, List.map_cons, List.map_nil, hsv, hx, hr]
  exact h v' w' h2 h3 h4

/-- The elements from i on: 's[i:]'. -/
theorem Sl.drop {α : Type} {enc : α → List Value} {k : Nat} {w : World} {B b off n c : Nat} {xs : List α} (h : Sl enc k w B (some ⟨b, off, none⟩) n c xs) {i : Nat} (hi : i ≤ n) (hn : 0 < n) :
    (c = i → Sl enc k w B (some ⟨b, off, none⟩) (n - i) (c - i) (xs.drop i)) ∧ (¬ c = i → Sl enc k w B (some ⟨b, off + i * k, none⟩) (n - i) (c - i) (xs.drop i)) := by
  have hle := h.le
  have hbig := h.big
  have hlen := h.len
  obtain ⟨b', off', hA, hb, hc⟩ := h.cells hn
  cases hA
  refine ⟨fun e => ⟨by rw [List.length_drop]; omega, by omega, by omega, (fun e => by cases e), fun h0 => by omega⟩, fun _ => ⟨by rw [List.length_drop]; omega, by omega, by omega, (fun e => by cases e), fun _ => ⟨b, off + i * k, rfl, hb, fun j x hx q u hu => ?_⟩⟩⟩
  rw [List.getElem?_drop] at hx
  have := hc (i + j) x hx q u hu
  rw [show off + i * k + j * k + q = off + (i + j) * k + q from by rw [Nat.add_mul]; omega]
  exact this
theorem Sl.empty {α : Type} {enc : α → List Value} {k : Nat} (w : World) (B : Nat) (A : Option Addr) (c : Nat) (h : A = none → c = 0) : Sl enc k w B A 0 c [] := ⟨rfl, by omega, by omega, h, fun h0 => by omega⟩
end Go.Proofs.Ytgjhjabnnhhkbaa
