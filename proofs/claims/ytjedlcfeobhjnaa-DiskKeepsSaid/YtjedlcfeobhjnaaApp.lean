/- An append in a region that draws its order, from any source that reads: what it leaves. No conditions on the program. -/
import Derived.Test.YtjedlcfeobhjnaaRRep
import Derived.Test.YtjedlcfeobhjnaaPerm
import Derived.Maps.AppendAt
import Derived.Laws.OwnMore
set_option linter.unusedSimpArgs false
set_option linter.unusedVariables false
namespace Go.Proofs.Ytjedlcfeobhjnaa
open Go.RowKit Go.ChangeMaps

section
variable {P : Program} {ops : Array Oper} {Q : Exit → Act → World → Prop} {S : World → Prop} {i : Nat} {o : Oper} {t : Tr} {a : Act} {w : World}
theorem t_two {j : Nat} {u : Tr} (h1 : wpT P ops Q (.run i t) S a w) (h2 : wpT P ops Q (.run j u) S a w) : wpT P ops Q (.two i t j u) S a w := ⟨h1, h2⟩
theorem r_append (ho : ops[i]? = some o) (hg : o.guard = none) (s x : Operand) (ty : TypeId) (hop : o.op = .call { callee := .builtin .append, args := #[s, x], argTypes := #[ty, ty] })
    (vs vx v' : Value) (w' : World) (hs : a.eval s = vs) (hx : a.eval x = vx) (hr : (Builtin.append_ #[ty, ty] o.type #[vs, vx]).run P w = .ok v' w')
    (h : ∃ S' : World → Prop, (∀ u, S' u → S u) ∧ S' w' ∧ wpT P ops Q t S' (a.put o.dst v') w') : wpT P ops Q (.run i t) S a w := by
  refine r_val ho (by unfold Region.wanted; rw [hg]) ⟨v', w', ?_, h⟩
  unfold execOp
  simp only [hop, resolve, invoke, builtin, Sem.run_bind, Sem.run_pure, Result.andThen_ok, List.map_toArray, List.map_cons, List.map_nil, hs, hx, hr]
/-- Appending to a row of the call's own, from a source that reads (nil too). -/
theorem append_src (base : Nat) (t ty e : TypeId) (i : TypeInfo) (z : Value) (size bytes : Nat) (ht : P.underlying t = some (.slice e)) (hi : P.info? e = some i) (hz : i.zero = some z)
    (hsize : i.size = size) (hby : i.bytes = bytes) (hzs : z.cells.size = size) (hsz : 0 < size)
    (v : Value) (n : Nat) (xs : List Value) (hown : w.ownsRow base e size v n xs) (hnn : v ≠ .slice none 0 0)
    (vx : Value) (m : Nat) (news : List Value) (hsrc : RdS w vx m size news) (h1 : ∀ u ∈ news, u.oneCell' = true)
    (h63 : n + m ≤ maxLen) (hbytes : (n + m) * bytes ≤ 140737488355328) (hbase : base ≤ w.heap.size) :
    ∃ v' w', (Builtin.append_ #[t, t] ty #[v, vx]).run P w = .ok v' w' ∧ w'.ownsRow base e size v' (n + m) (xs ++ news) ∧ w.grownBy w' v.ownBlock ∧ v' ≠ .slice none 0 0 ∧ (v'.ownBlock = v.ownBlock ∨ v'.ownBlock = some w.heap.size) := by
  obtain ⟨ad, cap, rfl, hc1, hc2, hlen, hnil, hrd⟩ := hsrc
  cases ad with
  | none =>
    obtain ⟨rfl, rfl⟩ := hnil rfl
    have e0 : news = [] := List.eq_nil_of_length_eq_zero (by simpa using hlen)
    subst e0
    exact ⟨v, w, run_append_owned_none w base t ty e i size ht hi v n xs hown, by simpa using hown, ⟨rfl, rfl, rfl, Nat.le_refl _, fun _ _ _ => rfl⟩, hnn, .inl rfl⟩
  | some ad =>
    have hcell : ∀ j u, news[j]? = some u → w.cell? (ad.add j) = some u := by
      intro j u hu
      have hm : 0 < m := by
        rcases Nat.eq_zero_or_pos m with h0 | h0
        · subst h0
          have e0 : news = [] := List.eq_nil_of_length_eq_zero (by simpa using hlen)
          subst e0; cases hu
        · exact h0
      obtain ⟨b, o, e2, hr⟩ := hrd hm
      cases e2
      have := (readAt_range hr).1 j u (by simpa using hu)
      rw [Addr.add_lit]; exact this
    obtain ⟨v', w', hr, ho, hg, hn, hl⟩ := run_append_own_at (P := P) w base t ty e i z size bytes ht hi hz hsize hby hzs hsz v n xs hown ad m cap news hlen hcell h1 h63 hbytes hbase
    exact ⟨v', w', hr, ho, hg, fun h => hnn (hn.1 h).1, hl⟩
end
end Go.Proofs.Ytjedlcfeobhjnaa
