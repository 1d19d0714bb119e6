/- Kit E, part 18: append onto what has grown from a row; reading both. -/
import Derived.Test.YtgpebcfeeagoaaaE17
set_option linter.unusedVariables false
namespace Go.E
open Go Go.RowKit
section
variable {P : Program} {fr : Fr P} {ds : List Deferred} {ρ : Env} {L : List HP} {k : List It} {ty : TypeId} {all : Array Oper} {rest : List Oper} {dst : Nat} {pos : String} {af : Array Edge}
theorem J.focusA {f : Nat → HP} {n : Nat} (j : Nat) (A : HP) (hj : j < n) (hA : f j = A) (h : J fr ds ρ (A :: bx f n j :: L) k) : J fr ds ρ (bs f n :: L) k := J.focus j hj (hA ▸ h)
theorem Sl.len1 {e n c : Nat} {A : Option Addr} {vs : List Value} {h : Hp} (s : Sl e 1 A n c vs h) : vs.length = n := by have := s.1; omega
theorem Sat.mkTw {base : World} {M : Nat → Prop} {e : TypeId} {A G : Option Addr} {n c m d : Nat} {ys : List Value} {w : World} (hn : n ≤ m) (h : Sat base M (Sl e 1 G m d ys :: Sl e 1 A n c (ys.take n) :: L) w) : Sat base M (Tw e A n c G m d ys :: L) w := by
  have h2 : Sat base M (star [Sl e 1 G m d ys, Sl e 1 A n c (ys.take n)] :: L) w := Sat.group.2 h
  exact h2.imp fun k hk => ⟨hn, .inr hk⟩
theorem s_appendTw {x y : Operand} {t e : TypeId} {A G B : Option Addr} {n c m d q c' ib : Nat} {ys news : List Value} {ib0 : Nat} {iv0 : List Value} {ity : Ty} {iv : List Value} {rem : List HP} {sz0 : Nat}
    (hx : ρ.ev x = some (.slice G m d)) (hy : ρ.ev y = some (.slice B q c')) (hL : L.Perm (Tw e A n c G m d ys :: rem)) (hnews : ∀ w, Sat fr.base fr.M L w → ∃ ad, B = some ad ∧ ∀ j u, news[j]? = some u → w.cell? (ad.add j) = some u)
    (ht : fr.X.tab[t]? = some (some ⟨.sl e, sz0, ib0, iv0⟩)) (hi : fr.X.tab[e]? = some (some ⟨ity, 1, ib, iv⟩))
    (hz : iv.length = 1) (hd : Nat.ble (dst + 1) fr.n = true) (hl : news.length = q) (h1 : ∀ u ∈ news, Value.one u = true) (h63 : m + q ≤ 1099511627776) (hbytes : Nat.ble ib 100 = true)
    (h : ∀ G' d', J fr ds ((dst, .slice G' (m + q) d') :: ρ) (Tw e A n c G' (m + q) d' (ys ++ news) :: rem) (.ops all rest :: k)) :
    J fr ds ρ L (.ops all (⟨some dst, .call ⟨.builtin .append, #[x, y], #[t, t]⟩, ty, pos, af, none⟩ :: rest) :: k) :=
  s_eff (fun c e => by cases e) hd fun a w ha hw o ho _ => by
    have hw' := hw.perm hL
    obtain ⟨ad, rfl, hc⟩ := hnews w hw
    have hby : (m + q) * ib ≤ 140737488355328 := Nat.le_trans (Nat.mul_le_mul_left _ (Nat.le_of_ble_eq_true hbytes)) (by omega)
    obtain ⟨hnm, hw2⟩ := hw'.tw
    have hys : ys.length = m := by
      rcases hw2 with ⟨_, _, s⟩ | s
      · obtain ⟨kh, hk, _⟩ := s.has List.mem_cons_self; exact hk.len1
      · obtain ⟨kh, hk, _⟩ := s.has List.mem_cons_self; exact hk.len1
    have htk : (ys ++ news).take n = ys.take n := by rw [List.take_append_of_le_length (by omega)]
    rcases hw2 with ⟨rfl, rfl, s⟩ | s
    · obtain ⟨A', c'', w', hr, hs⟩ := s.append2 (ty := o.type) (fr.X.ti ht) rfl (fr.X.ti hi) rfl rfl hz Nat.one_pos (by rw [hl, Nat.mul_one]) (c' := c') hc h1 (by omega) hby
      refine ⟨.slice A' (m + q) c'', w', _, ?_, ?_, h A' c''⟩
      · unfold execOp; rw [ho]
        simp [resolve, invoke, builtin, ha.ev hx, ha.ev hy, hr]
      · rcases hs with ⟨rfl, rfl, hs⟩ | hs
        · exact hs.imp fun k hk => ⟨by omega, .inl ⟨rfl, rfl, hk⟩⟩
        · refine Sat.mkTw (by omega) ?_
          refine (Sat.perm (List.Perm.swap _ _ _) (hs.perm (List.Perm.swap _ _ _) |>.imp fun k hk => ?_))
          rw [htk]
          exact hk.shrink hnm
    · obtain ⟨A', c'', w', hr, hs⟩ := s.append (ty := o.type) (fr.X.ti ht) rfl (fr.X.ti hi) rfl rfl hz Nat.one_pos (by rw [hl, Nat.mul_one]) (c' := c') hc h1 (by omega) hby
      refine ⟨.slice A' (m + q) c'', w', _, ?_, ?_, h A' c''⟩
      · unfold execOp; rw [ho]
        simp [resolve, invoke, builtin, ha.ev hx, ha.ev hy, hr]
      · refine Sat.mkTw (by omega) ?_
        rw [htk]; exact hs
/-- The place of an element of what has grown, or of the row that it grew from. -/
theorem y_ixTw {t e e' : TypeId} {x ix : Operand} {i : TI} {jt : Ty} {jz jb : Nat} {jv : List Value} {A G B : Option Addr} {n c m d n' c' : Nat} {kd : IntKind} {q : Int} {ys : List Value} (hm : Tw e' A n c G m d ys ∈ L) (hB : (B = G ∧ q < m) ∨ (B = A ∧ q < n)) (hx : ρ.ev x = some (.slice B n' c')) (hix : ρ.ev ix = some (.int kd q)) (hs : fr.X.tab[t]? = some (some i))
    (hi : i.ty = .sl e) (hj : fr.X.tab[e]? = some (some ⟨jt, jz, jb, jv⟩)) (h0 : 0 ≤ q) (h1 : q < n') : Yd fr ds ρ L (.indexAddr t x ix) ty (.pointer (some ((B.getD default).add (q.toNat * jz)))) := by
  refine exec_v (fun c e => by cases e) fun a w ha hw dst pos af g => ?_
  obtain ⟨kh, hk, hin⟩ := hw.has hm
  have hA : B.isSome = true := by
    obtain ⟨hn, ht⟩ := hk
    rcases ht with ⟨rfl, rfl, s⟩ | s
    · rcases hB with ⟨rfl, h2⟩ | ⟨rfl, h2⟩
      · exact s.some (by omega)
      · exact s.some (by omega)
    · obtain ⟨h1', h2', a1, a2, _, _⟩ := star_pair.1 s
      rcases hB with ⟨rfl, h2⟩ | ⟨rfl, h2⟩
      · exact a1.some (by omega)
      · exact a2.some (by omega)
  obtain ⟨ad, rfl⟩ := Option.isSome_iff_exists.1 hA
  exact (y_indexAddr (ad := ad) hx hix hs hi hj h0 h1 rfl).2 a w ha hw _ rfl rfl
theorem y_ldTw {t e : TypeId} {x : Operand} {i : TI} {A G B : Option Addr} {n c m d sz : Nat} {q : Nat} {ys : List Value} {v : Value} (hm : Tw e A n c G m d ys ∈ L) (hB : B = G ∨ (B = A ∧ q < n)) (hx : ρ.ev x = some (.pointer (some ((B.getD default).add ((q : Int).toNat * sz))))) (ht : fr.X.tab[t]? = some (some i)) (hi : i.ty.agg = false)
    (h1 : Nat.beq sz 1 = true) (hv : ys[q]? = some v) : Yd fr ds ρ L (.load t x) ty v :=
  y_load1 hx ht hi fun w hw => by
    have e1 : sz = 1 := Nat.eq_of_beq_eq_true h1
    subst e1
    obtain ⟨l1, l2, hp⟩ := List.append_of_mem hm
    subst hp
    have hw2 : Sat fr.base fr.M (Tw e A n c G m d ys :: (l1 ++ l2)) w := hw.perm List.perm_middle
    obtain ⟨r1, r2⟩ := hw2.twRd
    rcases hB with rfl | ⟨rfl, hq⟩
    · obtain ⟨ad, rfl, hc⟩ := r1 q v hv
      simpa using hc
    · obtain ⟨ad, rfl, hc⟩ := r2 q v hq hv
      simpa using hc
theorem y_ldOn {t : TypeId} {x : Operand} {i : TI} {A : Option Addr} {e n c : Nat} {sz : Nat} {q : Nat} {xs : List Value} {v : Value} (hx : ρ.ev x = some (.pointer (some ((A.getD default).add ((q : Int).toNat * sz))))) (ht : fr.X.tab[t]? = some (some i)) (hi : i.ty.agg = false)
    (h1 : Nat.beq sz 1 = true) [hm : HasS A e 1 n c xs L] (hv : xs[q]? = some v) : Yd fr ds ρ L (.load t x) ty v := y_ldO hx ht hi h1 (by rw [Int.toNat_natCast]; exact hv)
/-- What an owned row of one's own, or a block, gives to append. -/
theorem newsB {b T : Nat} {news : List Value} (hm : cb b T news ∈ L) : ∀ w, Sat fr.base fr.M L w → ∃ ad, some (⟨b, 0, none⟩ : Addr) = some ad ∧ ∀ j u, news[j]? = some u → w.cell? (ad.add j) = some u := fun w hw =>
  ⟨⟨b, 0, none⟩, rfl, fun j u hj => by have := hw.cbcell hm (o := j) hj; rw [addr_add, Nat.zero_add]; exact this⟩
theorem newsS {A : Option Addr} {e n c : Nat} {news : List Value} (hm : Sl e 1 A n c news ∈ L) (hn : 0 < n) : ∀ w, Sat fr.base fr.M L w → ∃ ad, A = some ad ∧ ∀ j u, news[j]? = some u → w.cell? (ad.add j) = some u := fun w hw => by
  obtain ⟨kh, hk, _⟩ := hw.has hm
  obtain ⟨ad, rfl⟩ := Option.isSome_iff_exists.1 (hk.some hn)
  refine ⟨ad, rfl, fun j u hj => ?_⟩
  obtain ⟨ad', e1, hc⟩ := hw.slRd hm j u hj
  cases e1; exact hc
theorem J.rot {A B C : HP} (h : J fr ds ρ (B :: C :: A :: L) k) : J fr ds ρ (A :: B :: C :: L) k := J.perm ((List.Perm.swap _ _ _).trans (List.Perm.cons _ (List.Perm.swap _ _ _))) h
theorem J.swap {A B : HP} (h : J fr ds ρ (B :: A :: L) k) : J fr ds ρ (A :: B :: L) k := J.perm (List.Perm.swap _ _ _) h
theorem ints_set' (xs : List Int) (j : Nat) (v : Int) : (ints xs).set j (.int .i64 v) = ints (xs.set j v) := by simp [ints, List.map_set]
end
end Go.E
