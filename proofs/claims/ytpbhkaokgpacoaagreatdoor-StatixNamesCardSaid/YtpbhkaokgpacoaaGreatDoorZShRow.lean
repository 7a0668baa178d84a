import Derived.Test.YtpbhkaokgpacoaaGreatDoorZStRowM
set_option linter.unusedSimpArgs false
set_option linter.unusedVariables false
/-
  Bytes of a row appended to a row of bytes.
-/
namespace Go.Proofs.YtpbhkaokgpacoaaGreatDoor.Sh
open Go.RowKit Go.Maps Go.WideMaps Go.Proofs.YtpbhkaokgpacoaaGreatDoor.Rf Go.Proofs.YtpbhkaokgpacoaaGreatDoor.Rd Go.Proofs.YtpbhkaokgpacoaaGreatDoor.St

section
variable {w : World} {B : Nat}
theorem run_append_MB (t ty : TypeId) (i : TypeInfo) (ht : Tryz.prog.underlying t = some (.slice 5)) (hi : Tryz.prog.info? 5 = some i) (hz : i.zero = some (.int .u8 0))
    (hsize : i.size = 1) (hby : i.bytes = 1) (v : Value) (l s : List UInt8) (ad : Addr) (n c : Nat) (hn : n = s.length) (hsrc : ∀ j u, (Lib.byteCells s)[j]? = some u → w.cell? (ad.add j) = some u) (hown : RowM w B v l) (hbytes : l.length + s.length ≤ 140737488355328) (hbase : B ≤ w.heap.size) :
    ∃ v' w', (Builtin.append_ #[t, t] ty #[v, .slice (some ad) n c]).run Tryz.prog w = .ok v' w' ∧ RowM w' B v' (l ++ s) ∧ w.grownBy w' v.ownBlock ∧ ∀ x ∈ ob v', x ∈ ob v ∨ w.heap.size ≤ x := by
  obtain ⟨g, cap, cur, fz, rfl, hB, hg, hfz, hnc, hcm, hcs, htk⟩ := hown
  subst hn
  have hbl : (Lib.byteCells l).length = l.length := Lib.byteCells_length l
  have hsl : (Lib.byteCells s).length = s.length := Lib.byteCells_length s
  have hcat : Lib.byteCells (l ++ s) = Lib.byteCells l ++ Lib.byteCells s := by simp [Lib.byteCells]
  by_cases hroom : l.length + s.length ≤ cap
  · have hf := run_firstCells_some (P := Tryz.prog) (w := w) 1 s.length ad s.length c (Lib.byteCells s) (by rw [hsl]; omega) hsrc
    have hst := run_storeCells_atM Tryz.prog g l.length 5 fz (Lib.byteCells s) 0 cur w hg (by rw [hsl]; omega) (by rw [hsl]; omega) (fun v hv => by obtain ⟨b, _, rfl⟩ := List.mem_map.1 hv; rfl)
    simp only [Nat.add_zero, hsl] at hst
    have hr : (Builtin.append_ #[t, t] ty #[.slice (some ⟨g, 0, none⟩) l.length cap, .slice (some ad) s.length c]).run Tryz.prog w =
        .ok (.slice (some ⟨g, 0, none⟩) (l.length + s.length) cap) (w.setRow g (cur.toList.take l.length ++ Lib.byteCells s ++ cur.toList.drop (l.length + s.length)).toArray) := by
      simp [Builtin.append_, run_underlying ht, sizeOf, typeInfo, hi, hsize, Builtin.lenOf, hroom, hf, Addr.add_lit, hst]
    refine ⟨_, _, hr, ⟨g, cap, _, fz, by rw [List.length_append], hB, Go.setRow_heap w g cur _ 5 _ hg, by rw [List.length_append]; omega, by rw [List.length_append]; exact hroom, hcm, ?_, ?_⟩, ⟨rfl, rfl, rfl, by simp [World.setRow], fun k _ hk => setRow_other w g k _ (fun e => hk (by simp [Value.ownBlock, e]))⟩, fun x hx => .inl (by simpa [ob, Value.ownBlock] using hx)⟩
    · simp only [List.size_toArray, List.length_append, List.length_take, List.length_drop, Array.length_toList, hsl]
      omega
    · rw [htk, hcat]
      refine List.take_left' ?_
      rw [List.length_append, hbl, hsl, List.length_append]
  · have holds : ∀ j u, (Lib.byteCells l)[j]? = some u → w.cell? ((⟨g, 0, none⟩ : Addr).add j) = some u := fun j u hu => by
      have hr0 : RowM w B (.slice (some ⟨g, 0, none⟩) l.length cap) l := ⟨g, cap, cur, fz, rfl, hB, hg, hfz, hnc, hcm, hcs, htk⟩
      have := hr0.range j u hu
      rw [Addr.add_lit]; simpa using this
    have h63 : l.length + s.length ≤ maxLen := by unfold maxLen; omega
    have hr := run_append_grow (P := Tryz.prog) (w := w) t ty 5 i (.int .u8 0) ht hi hz ⟨g, 0, none⟩ l.length cap (Lib.byteCells l) (by rw [hsize, hbl]; omega) holds ad s.length c (Lib.byteCells s) (by rw [hsize, hsl]; omega) hsrc (by omega) (by omega) (by rw [hby]; exact growslice_fits (by omega) (by omega))
    have hge := grownCap_ge w (l.length + s.length) cap 5
    have hcm2 : grownCap w (l.length + s.length) cap 5 ≤ maxLen := grownCap_le_maxLen w (l.length + s.length) cap 5 h63
    refine ⟨_, _, hr, ⟨w.heap.size, _, _, (0, 0), by rw [List.length_append], hbase, (MapKept.heap_alloc w.drew _).1, .inl (Nat.zero_le _), by rw [List.length_append]; exact hge, hcm2, ?_, ?_⟩, ⟨rfl, rfl, rfl, by simp, fun k hk _ => Below.heap_alloc w.drew _ _ hk⟩, fun x hx => .inr ?_⟩
    · have hz1 : (Value.int IntKind.u8 0).cells.size = 1 := rfl
      simp only [Array.size_append, List.size_toArray, size_zeroCells, hz1, hbl, hsl]
      omega
    · simp only [Array.toList_append, List.append_assoc]
      rw [← List.append_assoc, hcat]
      refine List.take_left' ?_
      rw [List.length_append, hbl, hsl, List.length_append]
    · have : x = w.heap.size := by simpa [ob, Value.ownBlock] using hx
      omega
theorem wp_append_MB {o : Oper} {a : Act} {K : Act → World → Prop} {Q : Exit → Act → World → Prop} (sl x : Operand) (t : TypeId)
    (ho : o.op = .call { callee := .builtin .append, args := #[sl, x], argTypes := #[t, t] }) (i : TypeInfo)
    (ht : Tryz.prog.underlying t = some (.slice 5)) (hi : Tryz.prog.info? 5 = some i) (hz : i.zero = some (.int .u8 0)) (hsize : i.size = 1) (hby : i.bytes = 1)
    (v : Value) (l s : List UInt8) (ad : Addr) (n c : Nat) (hn : n = s.length) (hsrc : ∀ j u, (Lib.byteCells s)[j]? = some u → w.cell? (ad.add j) = some u) (hs : a.eval sl = v) (hown : RowM w B v l) (hx : a.eval x = .slice (some ad) n c) (hbytes : l.length + s.length ≤ 140737488355328) (hbase : B ≤ w.heap.size)
    (h : ∀ v' w', RowM w' B v' (l ++ s) → w.grownBy w' v.ownBlock → (∀ x ∈ ob v', x ∈ ob v ∨ w.heap.size ≤ x) → K (a.put o.dst v') w') : o.wp Tryz.prog a w K Q := by
  obtain ⟨v', w', hr, h2, h3, h4⟩ := run_append_MB (B := B) t o.type i ht hi hz hsize hby v l s ad n c hn hsrc hown hbytes hbase
  unfold Oper.wp execOp
  simp only [ho, resolve, invoke, builtin, Sem.run_bind, Sem.run_pure, Result.andThen_ok, List.map_toArray, List.map_cons, List.map_nil, hs, hx, hr]
  exact h v' w' h2 h3 h4
theorem wpList_append_MB {ops : Array Oper} {rest : List Oper} {o : Oper} {a : Act} {Q : Exit → Act → World → Prop} (hgd : o.guard = none) (sl x : Operand) (t : TypeId)
    (ho : o.op = .call { callee := .builtin .append, args := #[sl, x], argTypes := #[t, t] }) (i : TypeInfo)
    (ht : Tryz.prog.underlying t = some (.slice 5)) (hi : Tryz.prog.info? 5 = some i) (hz : i.zero = some (.int .u8 0)) (hsize : i.size = 1) (hby : i.bytes = 1)
    (v : Value) (l s : List UInt8) (ad : Addr) (n c : Nat) (hn : n = s.length) (hsrc : ∀ j u, (Lib.byteCells s)[j]? = some u → w.cell? (ad.add j) = some u) (hs : a.eval sl = v) (hown : RowM w B v l) (hx : a.eval x = .slice (some ad) n c) (hbytes : l.length + s.length ≤ 140737488355328) (hbase : B ≤ w.heap.size)
    (h : ∀ v' w', RowM w' B v' (l ++ s) → w.grownBy w' v.ownBlock → wpList Tryz.prog ops Q rest (a.put o.dst v') w') : wpList Tryz.prog ops Q (o :: rest) a w :=
  wpList_plain hgd fun _ hK => wp_append_MB sl x t ho i ht hi hz hsize hby v l s ad n c hn hsrc hs hown hx hbytes hbase (fun v' w' h1 h2 _ => hK _ _ (h v' w' h1 h2))
theorem wpList_append_MS {ops : Array Oper} {rest : List Oper} {o : Oper} {a : Act} {Q : Exit → Act → World → Prop} (hgd : o.guard = none) (sl x : Operand) (t u : TypeId)
    (ho : o.op = .call { callee := .builtin .append, args := #[sl, x], argTypes := #[t, u] }) (i : TypeInfo)
    (ht : Tryz.prog.underlying t = some (.slice 5)) (hu : Tryz.prog.underlying u = some .string) (hi : Tryz.prog.info? 5 = some i) (hz : i.zero = some (.int .u8 0)) (hsize : i.size = 1) (hby : i.bytes = 1)
    (v : Value) (l s : List UInt8) (hs : a.eval sl = v) (hown : RowM w B v l) (hx : a.eval x = .string ⟨s.toArray⟩) (hbytes : l.length + s.length ≤ 140737488355328) (hbase : B ≤ w.heap.size)
    (h : ∀ v' w', RowM w' B v' (l ++ s) → w.grownBy w' v.ownBlock → wpList Tryz.prog ops Q rest (a.put o.dst v') w') : wpList Tryz.prog ops Q (o :: rest) a w :=
  wpList_plain hgd fun _ hK => wp_append_M sl x t u ho i ht hu hi hz hsize hby v l s hs hown hx hbytes hbase (fun v' w' h1 h2 _ => hK _ _ (h v' w' h1 h2))
end
theorem RowM.slice {w : World} {B : Nat} {v : Value} {l : List UInt8} (h : RowM w B v l) : ∃ g cap, v = .slice (some ⟨g, 0, none⟩) l.length cap := by
  obtain ⟨g, cap, _, _, hv, _⟩ := h
  exact ⟨g, cap, hv⟩
theorem bytesWorld_below (w : World) (e : TypeId) (s : ByteArray) : Below w.heap.size w (Lib.bytesWorld w e s) :=
  ⟨rfl, rfl, rfl, by rw [Lib.bytesWorld_size]; omega, fun k hk => Lib.bytesWorld_at_old w e s k hk⟩
end Go.Proofs.YtpbhkaokgpacoaaGreatDoor.Sh
