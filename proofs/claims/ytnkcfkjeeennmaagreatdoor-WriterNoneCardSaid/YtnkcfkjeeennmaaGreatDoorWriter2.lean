/- codec.Writer: Var, Text, Hash, Fixed, Done by contracts. Bytes: append of a string onto a row of the call's own; a row's bytes as a string. -/
import Derived.Test.YtnkcfkjeeennmaaGreatDoorCode
import Derived.Lib.AppendStr
namespace Go.Proofs.YtnkcfkjeeennmaaGreatDoor
open Go.RowKit Go.Lib


/-- A number in as few bytes as it wants, at most f of them. -/
def varN : Nat → Nat → List UInt8
  | 0, _ => []
  | f + 1, n => if n ≤ 127 then [n.toUInt8] else (n % 128 + 128).toUInt8 :: varN f (n / 128)
def varB (n : Nat) : List UInt8 := varN 10 n
theorem varN_len (f n : Nat) : (varN f n).length ≤ f := by
  induction f generalizing n with
  | zero => simp [varN]
  | succ f ih => unfold varN; split; · simp
                 have := ih (n / 128); simp; omega

theorem or128 (x : Nat) (h : x < 256) : bits .or .u8 x 128 = ((x % 128 + 128 : Nat) : Int) := by
  have : ∀ y : Fin 256, bits .or .u8 (y.val : Int) 128 = ((y.val % 128 + 128 : Nat) : Int) := by decide +kernel
  exact this ⟨x, h⟩
theorem plus_plus {S : Nat → Prop} {a b c : Nat} (hb : a ≤ b) (hc : b ≤ c) (k : Nat) (h : plus (plus S a b) b c k) : plus S a c k := by
  rcases h with (h | h) | h
  · exact .inl h
  · exact .inr ⟨h.1, by omega⟩
  · exact .inr ⟨by omega, h.2⟩

section
variable {P : Program}
theorem append_block_str (w : World) (base : Nat) (t u ty e : TypeId) (i : TypeInfo) (ht : P.underlying t = some (.slice e)) (hu : P.underlying u = some .string) (hi : P.info? e = some i) (hz : i.zero = some (.int .u8 0))
    (hsize : i.size = 1) (hby : i.bytes = 1) (v : Value) (n : Nat) (xs : List Value) (hown : w.ownsRow base e 1 v n xs) (s : ByteArray)
    (h63 : n + s.size ≤ maxLen) (hbytes : n + s.size ≤ 140737488355328) (v' : Value) (w' : World)
    (hr : (Builtin.append_ #[t, u] ty #[v, .string s]).run P w = .ok v' w') : v'.ownBlock = v.ownBlock ∨ v'.ownBlock = some w.heap.size := by
  have hsmall : n + s.size ≤ 9223372036854775807 := by simp only [maxLen] at h63; omega
  have hxl : xs.length = n := by simpa using hown.1
  rcases hown.2 with ⟨rfl, rfl⟩ | ⟨g, cap, cur, rfl, hbg, hg, hnc, hcm, hcs, htake⟩
  · by_cases hm : s.size = 0
    · have e2 : (Builtin.append_ #[t, u] ty #[.slice none 0 0, .string s]).run P w = .ok (.slice none 0 0) w := by
        have hf := run_firstCells_string (P := P) w 1 s
        have hn : strCells s = [] := List.eq_nil_of_length_eq_zero (by rw [strCells_length]; exact hm)
        rw [hm] at hf
        simp [Builtin.append_, run_underlying ht, run_underlying hu, sizeOf, typeInfo, hi, hsize, Builtin.lenOf, hm, hf]
      rw [e2] at hr
      cases hr
      exact .inl rfl
    · have e2 := run_append_nil_string (P := P) w t u ty e i (.int .u8 0) ht hu hi hz s (by omega) (by omega) (by rw [hby]; omega)
      rw [e2] at hr
      cases hr
      exact .inr rfl
  · by_cases hroom : n + s.size ≤ cap
    · have hcs' : cur.size = cap := by simpa using hcs
      have e2 := run_append_room_string (P := P) w t u ty e i ht hu hi hsize g n cap cur hg s hroom (by omega)
      rw [e2] at hr
      cases hr
      exact .inl rfl
    · have holds : ∀ j u, xs[j]? = some u → w.cell? ((⟨g, 0, none⟩ : Addr).add j) = some u := hown.cells (g := g) rfl
      have e2 := run_append_grow_string (P := P) w t u ty e i (.int .u8 0) ht hu hi hz ⟨g, 0, none⟩ n cap xs (by rw [hsize]; simpa using hxl) holds s (by omega) (by omega) (by rw [hby]; exact growslice_fits (by omega) (by omega))
      rw [e2] at hr
      cases hr
      exact .inr rfl
theorem wpList_appStr {w : World} {ops : Array Oper} {rest : List Oper} {o : Oper} {a : Act} {Q : Exit → Act → World → Prop} (hgd : o.guard = none) (sl x : Operand) (t u : TypeId)
    (ho : o.op = .call { callee := .builtin .append, args := #[sl, x], argTypes := #[t, u] })
    (base : Nat) (e : TypeId) (i : TypeInfo) (ht : P.underlying t = some (.slice e)) (hu : P.underlying u = some .string) (hi : P.info? e = some i) (hz : i.zero = some (.int .u8 0))
    (hsize : i.size = 1) (hby : i.bytes = 1)
    (v : Value) (n : Nat) (xs : List Value) (hs : a.eval sl = v) (hown : w.ownsRow base e 1 v n xs) (s : ByteArray) (hx : a.eval x = .string s)
    (h63 : n + s.size ≤ maxLen) (hbytes : n + s.size ≤ 140737488355328) (hbase : base ≤ w.heap.size)
    (h : ∀ v' w', w'.ownsRow base e 1 v' (n + s.size) (xs ++ strCells s) → w.grownBy w' v.ownBlock → (v'.ownBlock = v.ownBlock ∨ v'.ownBlock = some w.heap.size) → wpList P ops Q rest (a.put o.dst v') w') : wpList P ops Q (o :: rest) a w := by
  refine wpList_plain hgd fun K hK => ?_
  obtain ⟨v', w', hr, h2, h3, _⟩ := run_append_own_string (P := P) w base t u o.type e i ht hu hi hz hsize hby v n xs hown s h63 hbytes hbase
  have h4 := append_block_str w base t u o.type e i ht hu hi hz hsize hby v n xs hown s h63 hbytes v' w' hr
  unfold Oper.wp execOp
  simp only [ho, resolve, invoke, builtin, Sem.run_bind, Sem.run_pure, Result.andThen_ok, List.map_toArray, List.map_cons, List.map_nil, hs, hx, hr]
  exact hK _ _ (h v' w' h2 h3 h4)
end
/-- A string of these bytes. -/
abbrev str (l : List UInt8) : ByteArray := ⟨l.toArray⟩
theorem str_size (l : List UInt8) : (str l).size = l.length := by simp [ByteArray.size]
theorem strCells_str (l : List UInt8) : strCells (str l) = l.map u8v := by simp [strCells]
theorem str_toList (s : ByteArray) : str s.data.toList = s := by cases s; simp
theorem strOfNums_str (xs : List UInt8) : strOfNums (xs.map fun c => (c.toNat : Int)) = str xs := by
  have : (xs.map fun c => (c.toNat : Int)).map (fun n => UInt8.ofNat n.toNat) = xs := by
    rw [List.map_map]
    exact (List.map_congr_left (fun c _ => by simp)).trans (List.map_id xs)
  unfold strOfNums str
  rw [this]
/-- 'string(b)' of a row of bytes. -/
theorem run_str_own (w : World) {B : Nat} {v : Value} {xs : List UInt8} (h : w.ownsRow B 5 1 v xs.length (xs.map u8v)) :
    (convert 165 9 v).run Tryz.prog w = .ok (.string (str xs)) w := by
  rcases h.2 with ⟨rfl, hn⟩ | ⟨g, cap, cur, rfl, hb, hg, hnc, hcm, hcs, ht⟩
  · have : xs = [] := List.eq_nil_of_length_eq_zero hn
    subst this
    exact run_convert_bytes_nil w 165 5 Tryz.underlying165 Tryz.underlying5 0 0 9 Tryz.underlying9
  · have e := run_convert_bytes_arg (P := Tryz.prog) w 165 5 Tryz.underlying165 Tryz.underlying5 g 0 xs.length cap (xs.map fun c => (c.toNat : Int)) (by simp) (fun i hi => by
      have := h.cells (g := g) rfl i (u8v xs[i]) (by simp [hi])
      simpa [Addr.add_lit, hi] using this) 9 Tryz.underlying9
    rw [e, strOfNums_str]
end Go.Proofs.YtnkcfkjeeennmaaGreatDoor
