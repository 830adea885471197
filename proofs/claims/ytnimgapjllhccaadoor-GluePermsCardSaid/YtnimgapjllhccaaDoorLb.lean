/- Contracts of the library functions and of Parse at the example. Conditions: none beyond the given model and program. -/
import Derived.Test.YtnimgapjllhccaaDoorAbC
import Derived.Test.YtnimgapjllhccaaDoorProg
import Derived.KernelRfl
import Derived.Shelf.Strings.Search1
import Derived.Shelf.Strings.OnBuilder
import Derived.Shelf.Strconv.Atoi
import Derived.Lib.AtoiErrMem
import Derived.Test.YtnimgapjllhccaaDoorIt
import Derived.TacticsInMore
import Derived.RegionIn
import Derived.RecoverIn
namespace Go.Proofs
open Go.Shelf
def Tryd.l217_ren : Go.Shelf.Ren := ⟨fun | 217 => 87 | 266 => 97 | n => n, fun | 9 => 9 | 5 => 5 | 3 => 3 | n => n, fun | n => n⟩
theorem Tryd.l217 : Go.Proofs.Lays.n217 Tryd.prog Tryd.l217_ren := {
  mixed := by kernel_rfl
  f217 := Tryd.func87.trans (congrArg some (by kernel_rfl))
  f266 := Tryd.func97.trans (congrArg some (by kernel_rfl))
  t3 := Tryd.underlying3
  a3 := Tryd.isAgg3
  z3 := Tryd.sizeOf3
  v3 := Tryd.zeroValue3
  t5 := Tryd.underlying5
  a5 := Tryd.isAgg5
  z5 := Tryd.sizeOf5
  v5 := Tryd.zeroValue5
  t9 := Tryd.underlying9
  a9 := Tryd.isAgg9
  z9 := Tryd.sizeOf9
  v9 := Tryd.zeroValue9 }
def Tryd.l156_ren : Go.Shelf.Ren := ⟨fun | 156 => 28 | 165 => 39 | 166 => 40 | 169 => 41 | 240 => 55 | 241 => 56 | 276 => 68 | 277 => 69 | n => n, fun | 31 => 52 | 9 => 9 | 3 => 3 | 4 => 4 | 0 => 0 | 20 => 20 | 72 => 77 | 76 => 81 | 70 => 74 | 37 => 75 | 75 => 80 | 127 => 96 | 164 => 108 | 5 => 5 | 80 => 69 | n => n, fun | n => n⟩
theorem Tryd.l156 : Go.Proofs.Lays.n156 Tryd.prog Tryd.l156_ren := {
  mixed := by kernel_rfl
  f156 := Tryd.func28.trans (congrArg some (by kernel_rfl))
  f165 := Tryd.func39.trans (congrArg some (by kernel_rfl))
  f166 := Tryd.func40.trans (congrArg some (by kernel_rfl))
  f169 := Tryd.func41.trans (congrArg some (by kernel_rfl))
  f240 := Tryd.func55.trans (congrArg some (by kernel_rfl))
  f241 := Tryd.func56.trans (congrArg some (by kernel_rfl))
  f276 := Tryd.func68.trans (congrArg some (by kernel_rfl))
  f277 := Tryd.func69.trans (congrArg some (by kernel_rfl))
  t0 := Tryd.underlying0
  a0 := Tryd.isAgg0
  z0 := Tryd.sizeOf0
  v0 := Tryd.zeroValue0
  t3 := Tryd.underlying3
  a3 := Tryd.isAgg3
  z3 := Tryd.sizeOf3
  v3 := Tryd.zeroValue3
  t4 := Tryd.underlying4
  a4 := Tryd.isAgg4
  z4 := Tryd.sizeOf4
  v4 := Tryd.zeroValue4
  t9 := Tryd.underlying9
  a9 := Tryd.isAgg9
  z9 := Tryd.sizeOf9
  v9 := Tryd.zeroValue9
  t20 := Tryd.underlying20
  a20 := Tryd.isAgg20
  z20 := Tryd.sizeOf20
  v20 := Tryd.zeroValue20
  t31 := Tryd.underlying52
  a31 := Tryd.isAgg52
  z31 := Tryd.sizeOf52
  v31 := Tryd.zeroValue52
  t37 := Tryd.underlying75
  a37 := Tryd.isAgg75
  z37 := Tryd.sizeOf75
  v37 := Tryd.zeroValue75
  t70 := Tryd.underlying74
  a70 := Tryd.isAgg74
  z70 := Tryd.sizeOf74
  v70 := Tryd.zeroValue74
  t72 := Tryd.underlying77
  a72 := Tryd.isAgg77
  z72 := Tryd.sizeOf77
  v72 := Tryd.zeroValue77
  t75 := Tryd.underlying80
  a75 := Tryd.isAgg80
  z75 := Tryd.sizeOf80
  v75 := Tryd.zeroValue80
  t76 := Tryd.underlying81
  a76 := Tryd.isAgg81
  z76 := Tryd.sizeOf81
  v76 := Tryd.zeroValue81
  t127 := Tryd.underlying96
  a127 := Tryd.isAgg96
  z127 := Tryd.sizeOf96
  v127 := Tryd.zeroValue96
  t164 := Tryd.underlying108
  a164 := Tryd.isAgg108
  z164 := Tryd.sizeOf108
  v164 := Tryd.zeroValue108 }
def Tryd.l172_ren : Go.Shelf.Ren := ⟨fun | 172 => 44 | 244 => 57 | 245 => 58 | 247 => 70 | 279 => 71 | 280 => 72 | 281 => 73 | 282 => 74 | 287 => 84 | 316 => 85 | 171 => 26 | 205 => 86 | 321 => 95 | 322 => 96 | 243 => 37 | 246 => 54 | 283 => 64 | 284 => 65 | 285 => 66 | 286 => 67 | 129 => 80 | 317 => 79 | 318 => 81 | 319 => 82 | 320 => 83 | 337 => 93 | 338 => 94 | n => n, fun | 9 => 9 | 3 => 3 | 75 => 80 | 76 => 81 | 4 => 4 | 5 => 5 | 167 => 111 | 37 => 75 | 0 => 0 | 85 => 112 | 2 => 2 | 168 => 114 | 53 => 103 | 175 => 127 | 46 => 125 | 210 => 131 | 127 => 96 | 145 => 144 | 143 => 142 | 21 => 21 | 171 => 102 | 173 => 106 | 212 => 121 | 51 => 122 | 20 => 20 | 213 => 123 | 232 => 147 | 233 => 148 | 80 => 69 | n => n, fun | 15 => 2 | 16 => 3 | 17 => 0 | 18 => 6 | 19 => 7 | n => n⟩
theorem Tryd.l172 : Go.Proofs.Lays.n172 Tryd.prog Tryd.l172_ren := {
  mixed := by kernel_rfl
  f129 := Tryd.func80.trans (congrArg some (by kernel_rfl))
  f171 := Tryd.func26.trans (congrArg some (by kernel_rfl))
  f172 := Tryd.func44.trans (congrArg some (by kernel_rfl))
  f205 := Tryd.func86.trans (congrArg some (by kernel_rfl))
  f243 := Tryd.func37.trans (congrArg some (by kernel_rfl))
  f244 := Tryd.func57.trans (congrArg some (by kernel_rfl))
  f245 := Tryd.func58.trans (congrArg some (by kernel_rfl))
  f246 := Tryd.func54.trans (congrArg some (by kernel_rfl))
  f247 := Tryd.func70.trans (congrArg some (by kernel_rfl))
  f279 := Tryd.func71.trans (congrArg some (by kernel_rfl))
  f280 := Tryd.func72.trans (congrArg some (by kernel_rfl))
  f281 := Tryd.func73.trans (congrArg some (by kernel_rfl))
  f282 := Tryd.func74.trans (congrArg some (by kernel_rfl))
  f283 := Tryd.func64.trans (congrArg some (by kernel_rfl))
  f284 := Tryd.func65.trans (congrArg some (by kernel_rfl))
  f285 := Tryd.func66.trans (congrArg some (by kernel_rfl))
  f286 := Tryd.func67.trans (congrArg some (by kernel_rfl))
  f287 := Tryd.func84.trans (congrArg some (by kernel_rfl))
  f316 := Tryd.func85.trans (congrArg some (by kernel_rfl))
  f317 := Tryd.func79.trans (congrArg some (by kernel_rfl))
  f318 := Tryd.func81.trans (congrArg some (by kernel_rfl))
  f319 := Tryd.func82.trans (congrArg some (by kernel_rfl))
  f320 := Tryd.func83.trans (congrArg some (by kernel_rfl))
  f321 := Tryd.func95.trans (congrArg some (by kernel_rfl))
  f322 := Tryd.func96.trans (congrArg some (by kernel_rfl))
  f337 := Tryd.func93.trans (congrArg some (by kernel_rfl))
  f338 := Tryd.func94.trans (congrArg some (by kernel_rfl))
  t0 := Tryd.underlying0
  a0 := Tryd.isAgg0
  z0 := Tryd.sizeOf0
  v0 := Tryd.zeroValue0
  t2 := Tryd.underlying2
  a2 := Tryd.isAgg2
  z2 := Tryd.sizeOf2
  v2 := Tryd.zeroValue2
  t3 := Tryd.underlying3
  a3 := Tryd.isAgg3
  z3 := Tryd.sizeOf3
  v3 := Tryd.zeroValue3
  t4 := Tryd.underlying4
  a4 := Tryd.isAgg4
  z4 := Tryd.sizeOf4
  v4 := Tryd.zeroValue4
  t5 := Tryd.underlying5
  a5 := Tryd.isAgg5
  z5 := Tryd.sizeOf5
  v5 := Tryd.zeroValue5
  t9 := Tryd.underlying9
  a9 := Tryd.isAgg9
  z9 := Tryd.sizeOf9
  v9 := Tryd.zeroValue9
  t20 := Tryd.underlying20
  a20 := Tryd.isAgg20
  z20 := Tryd.sizeOf20
  v20 := Tryd.zeroValue20
  t21 := Tryd.underlying21
  a21 := Tryd.isAgg21
  z21 := Tryd.sizeOf21
  v21 := Tryd.zeroValue21
  t37 := Tryd.underlying75
  a37 := Tryd.isAgg75
  z37 := Tryd.sizeOf75
  v37 := Tryd.zeroValue75
  t46 := Tryd.underlying125
  a46 := Tryd.isAgg125
  z46 := Tryd.sizeOf125
  v46 := Tryd.zeroValue125
  t51 := Tryd.underlying122
  a51 := Tryd.isAgg122
  z51 := Tryd.sizeOf122
  v51 := Tryd.zeroValue122
  t53 := Tryd.underlying103
  a53 := Tryd.isAgg103
  z53 := Tryd.sizeOf103
  v53 := Tryd.zeroValue103
  t75 := Tryd.underlying80
  a75 := Tryd.isAgg80
  z75 := Tryd.sizeOf80
  v75 := Tryd.zeroValue80
  t76 := Tryd.underlying81
  a76 := Tryd.isAgg81
  z76 := Tryd.sizeOf81
  v76 := Tryd.zeroValue81
  t85 := Tryd.underlying112
  a85 := Tryd.isAgg112
  z85 := Tryd.sizeOf112
  v85 := Tryd.zeroValue112
  t127 := Tryd.underlying96
  a127 := Tryd.isAgg96
  z127 := Tryd.sizeOf96
  v127 := Tryd.zeroValue96
  t143 := Tryd.underlying142
  a143 := Tryd.isAgg142
  z143 := Tryd.sizeOf142
  v143 := Tryd.zeroValue142
  t145 := Tryd.underlying144
  a145 := Tryd.isAgg144
  z145 := Tryd.sizeOf144
  v145 := Tryd.zeroValue144
  t167 := Tryd.underlying111
  a167 := Tryd.isAgg111
  z167 := Tryd.sizeOf111
  v167 := Tryd.zeroValue111
  t168 := Tryd.underlying114
  a168 := Tryd.isAgg114
  z168 := Tryd.sizeOf114
  v168 := Tryd.zeroValue114
  t171 := Tryd.underlying102
  a171 := Tryd.isAgg102
  z171 := Tryd.sizeOf102
  v171 := Tryd.zeroValue102
  t173 := Tryd.underlying106
  a173 := Tryd.isAgg106
  z173 := Tryd.sizeOf106
  v173 := Tryd.zeroValue106
  t175 := Tryd.underlying127
  a175 := Tryd.isAgg127
  z175 := Tryd.sizeOf127
  v175 := Tryd.zeroValue127
  t210 := Tryd.underlying131
  a210 := Tryd.isAgg131
  z210 := Tryd.sizeOf131
  v210 := Tryd.zeroValue131
  t212 := Tryd.underlying121
  a212 := Tryd.isAgg121
  z212 := Tryd.sizeOf121
  v212 := Tryd.zeroValue121
  t213 := Tryd.underlying123
  a213 := Tryd.isAgg123
  z213 := Tryd.sizeOf123
  t232 := Tryd.underlying147
  a232 := Tryd.isAgg147
  z232 := Tryd.sizeOf147
  v232 := Tryd.zeroValue147
  t233 := Tryd.underlying148
  a233 := Tryd.isAgg148
  z233 := Tryd.sizeOf148
  v233 := Tryd.zeroValue148
  g15 := by kernel_rfl
  g16 := by kernel_rfl
  g17 := by kernel_rfl
  g18 := by kernel_rfl
  g19 := by kernel_rfl }
theorem Tryd.x156 : Builder.Extra Tryd.prog Tryd.l156_ren := {
  sizeBuilder := by kernel_rfl
  liesBuilder := by kernel_rfl
  t5 := Tryd.underlying5
  a5 := Tryd.isAgg5
  z5 := Tryd.sizeOf5
  v5 := Tryd.zeroValue5
  infoByte := by kernel_rfl
  cellsByte := by kernel_rfl
  sizeByte := by kernel_rfl
  neB5 := by decide }
end Go.Proofs
namespace Go.Ab
open Go.Proofs Go.Shelf Go.RowKit
theorem lib_IndexByte (s : ByteArray) (c : Int) (h : Heap) : Gives Tryd.prog 87 [.string s, .int .u8 c] h (.ret (.int .i64 (Lib.indexByte s.data.toList c.toNat.toUInt8))) h :=
  Gives.of_calls (enters_fn Tryd.func87 (by kernel_rfl) (by kernel_rfl)) (by simp [plain]) rfl (fun w => (Any.stringslite_IndexByte Tryd.l217 s c w).mono fun e w' ⟨h1, h2⟩ => ⟨h1, h2 ▸ Below.refl _ _⟩) h

theorem below_bytes (w : World) (t : TypeId) (s : ByteArray) : Below w.heap.size w (Lib.bytesWorld w t s) := by
  exact Lib.bytesWorld_below w t s

theorem lib_Atoi (s : ByteArray) (n : Int) (hl : s.size ≤ 18) (hs : Lib.atoi s.data.toList = some n) (h : Heap) : Gives Tryd.prog 44 [.string s] h (.ret (.tuple #[.int .i64 n, .nilIface])) h :=
  Gives.of_calls (enters_fn Tryd.func44 (by kernel_rfl) (by kernel_rfl)) (by simp [plain]) rfl (fun w => (Any.strconv_Atoi Tryd.l172 s n hl hs w).mono fun e w' ⟨h1, t, h2⟩ => ⟨h1, h2 ▸ below_bytes _ _ _⟩) h

def joinV (xs : List ByteArray) (sep : ByteArray) : Value := .string ⟨(Lib.join (xs.map (·.data.toList)) sep.data.toList).toArray⟩

theorem sum_Join {h : Heap} {b o n : Nat} {bl : Blk} {xs : List ByteArray} {sep : ByteArray} (hb : hblk h b = some bl) (hn : 0 < n) (hlen : xs.length = n) (hxs : ∀ (j : Nat) (x : ByteArray), xs[j]? = some x → bl.cells[o + j]? = some (.string x))
    (hN : n ≤ 140737488355328) (hJ : (Lib.join (xs.map (·.data.toList)) sep.data.toList).length ≤ 140737488355328) :
    Sum Tryd.prog 28 [.slice (some ⟨b, o, none⟩) n 1, .string sep] h fun out h2 => out = .ret (joinV xs sep) ∧ h2 = h := by
  refine ⟨enters_fn Tryd.func28 (by kernel_rfl) (by kernel_rfl), fun m w args' rel hva => ?_⟩
  obtain ⟨v1, r1, rfl, k1, k2⟩ := hva.cons_inv
  obtain ⟨v2, r2, rfl, k3, k4⟩ := k2.cons_inv
  have := k4.nil_inv
  subst this
  have := k3.plain_eq rfl
  subst this
  cases k1 with
  | sliceNil => omega
  | slice0 => omega
  | slice i o n z c L hL hnc hz hc =>
    obtain ⟨cs, el, fz, hw, hcells, _⟩ := (rel.blk b bl L hb hL).row
    have hcell : ∀ (j : Nat) (x : ByteArray), xs[j]? = some x → w.cell? ⟨L.b, L.sh + o + j, none⟩ = some (.string x) := by
      intro j x hj
      obtain ⟨v', h1, h2⟩ := hcells (o + j) _ (hxs j x hj)
      have := h2.plain_eq rfl
      subst this
      rw [← Nat.add_assoc] at h1
      simp [World.cell?, hw, h1]
    have hlt : L.b < w.heap.size := (Array.getElem?_eq_some_iff.1 hw).1
    have hcl := Any.strings_Join Tryd.l156 Tryd.x156 L.b (L.sh + o) c xs sep w hcell hlt (by omega) (by omega) hJ
    rw [hlen] at hcl
    refine (show Calls Tryd.prog 28 #[.slice (some ⟨L.b, L.sh + o, none⟩) n c, .string sep] w _ from hcl).mono ?_
    rintro e w' ⟨rfl, hbl⟩
    have st : St h.length w.heap.size m h w := ⟨rel, Nat.le_refl _, fun i b L hi hb _ => (by rw [hblk_ge hi] at hb; cases hb), Nat.le_refl _⟩
    exact ⟨m, .ret (joinV xs sep), h, ⟨rfl, rfl⟩, VRel.of_plain _ _ rfl, (Tr.refl st).grow hbl⟩

def toStrs : List Value → Option (List ByteArray)
  | [] => some []
  | .string s :: q => match toStrs q with | some r => some (s :: r) | none => none
  | _ => none

theorem toStrs_get : ∀ (l : List Value) (xs : List ByteArray), toStrs l = some xs → xs.length = l.length ∧ ∀ (j : Nat) (x : ByteArray), xs[j]? = some x → l[j]? = some (.string x) := by
  intro l
  induction l with
  | nil => intro x h; simp [toStrs] at h; subst h; simp
  | cons v q ih =>
    intro x h
    unfold toStrs at h
    split at h
    · cases ‹_ = []›
    · rename_i s q' heq
      cases heq
      split at h
      · rename_i r hr
        cases h
        obtain ⟨h1, h2⟩ := ih r hr
        refine ⟨by simp [h1], ?_⟩
        intro j y hj
        cases j with
        | zero => simp at hj; subst hj; rfl
        | succ j => exact h2 j y (by simpa using hj)
      · cases h
    · cases h

def LIB : CallF := fun f args h =>
  if f = 87 then
    match args with
    | [.string s, .int .u8 c] => some (.ret (.int .i64 (Lib.indexByte s.data.toList c.toNat.toUInt8)), h)
    | _ => none
  else if f = 28 then
    match args with
    | [.slice (some ⟨b, 0, none⟩) n 1, .string sep] =>
      match hblk h b with
      | some bl =>
        match toStrs bl.cells with
        | some xs => if (decide (0 < n) && decide (xs.length = n) && decide (n ≤ 140737488355328) && decide ((Lib.join (xs.map (·.data.toList)) sep.data.toList).length ≤ 140737488355328)) = true then some (.ret (joinV xs sep), h) else none
        | none => none
      | none => none
    | _ => none
  else if f = 44 then
    match args with
    | [.string s] => if s.size ≤ 18 then (match Lib.atoi s.data.toList with | some n => some (.ret (.tuple #[.int .i64 n, .nilIface]), h) | none => none) else none
    | _ => none
  else none

theorem LIB_ok : ∀ f args h o h', LIB f args h = some (o, h') → Gives Tryd.prog f args h o h' ∧ ∃ x, h' = h ++ x := by
  intro f args h o h' hx
  unfold LIB at hx
  split at hx
  · rename_i hf; subst hf
    split at hx
    · rename_i s c
      simp only [Option.some.injEq, Prod.mk.injEq] at hx
      obtain ⟨rfl, rfl⟩ := hx
      exact ⟨lib_IndexByte s c h, [], by simp⟩
    · cases hx
  · split at hx
    · rename_i hf; subst hf
      split at hx
      · rename_i b n sep
        split at hx
        · rename_i bl hb
          split at hx
          · rename_i xs hxs
            split at hx
            · rename_i hck
              simp only [Bool.and_eq_true, decide_eq_true_eq] at hck
              simp only [Option.some.injEq, Prod.mk.injEq] at hx
              obtain ⟨rfl, rfl⟩ := hx
              obtain ⟨h1, h2⟩ := toStrs_get _ _ hxs
              have hb' : hblk (roH h) b = some ⟨bl.cells, false⟩ := by
                unfold hblk at hb ⊢
                simp only [roH, List.getElem?_map]
                cases hy : h[b]? with
                | none => simp [hy] at hb
                | some y => rw [hy] at hb; simp at hb; subst hb; rfl
              refine ⟨.inr ⟨_, sum_Join (h := roH h) hb' hck.1.1.1 hck.1.1.2 (fun j x hj => by simpa using h2 j x hj) hck.1.2 hck.2, ?_⟩, [], by simp⟩
              rintro o2 h2 ⟨rfl, rfl⟩
              exact .inl ⟨_, rfl, rfl, rfl, rfl⟩
            · cases hx
          · cases hx
        · cases hx
      · cases hx
    · split at hx
      · rename_i hf; subst hf
        split at hx
        · rename_i s
          split at hx
          · rename_i hl
            split at hx
            · rename_i n hn
              simp only [Option.some.injEq, Prod.mk.injEq] at hx
              obtain ⟨rfl, rfl⟩ := hx
              exact ⟨lib_Atoi s n hl hn h, [], by simp⟩
            · cases hx
          · cases hx
        · cases hx
      · cases hx
end Go.Ab

namespace Go.Ab
open Go.Proofs

theorem parse1_ret (x y : Value) (w : World) : CallsDIn Fence.wide 0 Tryd.prog 31 #[x, y] .returning w fun e u' w' => (∃ v, e = .returned v) ∧ u' = .returning ∧ w' = w := by
  have hne : (binOp .neq 20 .nilIface .nilIface).run Tryd.prog w = .ok (.bool false) w := by
    simp [binOp, Op.equal, Op.maxDepth, equal_iface0 9999 Tryd.underlying20]
  have hgd : ∀ x y : Operand, (isCst x || isCst y) = true → (eqGuard .neq 20 x y .nilIface .nilIface).run Tryd.prog w = .ok () w := fun x y h => guard_cst h
  refine callsDIn_of_wpSIn Tryd.func31 rfl trivial fun c₀ cs hu => ?_
  apply wpSIn_seq
  apply wpSIn_region
  simp [wpOpsSIn, go_sem, recoverD, hu, Tryd.ntmps31, Exit.thenS]
  apply wpSIn_seq
  apply wpSIn_region
  simp [wpOpsSIn, go_sem, hne, Exit.thenS]
  refine wpSIn_cond (t := false) (by simp [Act.eval, Array.replicate]) ?_
  simp only [Bool.false_eq_true, if_false]
  refine wpSIn_of_wpIn rfl (wpIn_skip ?_)
  cases c₀
  simp_all [bodyPostS, results, Tryd.results31]
end Go.Ab

namespace Go.Ab
open Go.Proofs

noncomputable def XC2 (fuel : Nat) : XC := { T := TY, fn := FN, lib := LIB, seqs := SQ, own := fun f => f == 32 || f == 33 || f == 34, fuel }

theorem XC2_ok (fuel : Nat) : (XC2 fuel).ok Tryd.prog := ⟨TY_ok, by kernel_rfl, FN_ok, LIB_ok, SQ_ok⟩

def xParse4 (C : XC) (call callR : CallF) (res : List ResultVar) (r0 r1 rest : Code) (args : List Value) (n : Nat) (h : Heap) : Option (AOut × Heap) :=
  match xCode C.T call callR C.seqs C.fuel false h.length r0 (startL args n) h with
  | some (.normal, e1, h1) =>
    match xCode C.T call callR C.seqs C.fuel false h.length r1 e1 h1 with
    | some (.normal, e2, h2) =>
        match eOps (envL e2) [.tmp 2, .tmp 3] with
        | some vs =>
          match xCode C.T call callR C.seqs C.fuel true h.length rest (putL e2 (some 13) (.func (.func 31) #[] ⟨vs⟩)) h2 with
          | some (.ret, e4, h4) => match aResults C.T (envL e4) h4 res with | some vs => some (.ret (tupleOf vs), h4) | none => none
          | _ => none
        | none => none
    | _ => none
  | _ => none

noncomputable def xParse (C : XC) (k : Nat) (args : List Value) (h : Heap) : Option (AOut × Heap) :=
  match Tryd.f20.body with
  | some (.seq r0 (.seq r1 (.seq _ rest))) => if args.length = 1 then xParse4 C (xCall C k) (roOnly C.own (xCall C k)) Tryd.f20.results.toList r0 r1 rest args Tryd.f20.ntmps h else none
  | _ => none

theorem xParse_sound {C : XC} (hC : C.ok Tryd.prog) (k : Nat) {args : List Value} {h : Heap} {o : AOut} {h' : Heap} (hx : xParse C k args h = some (o, h')) : Sum Tryd.prog 20 args h fun o2 h2 => o2 = o ∧ h2 = h' := by
  obtain ⟨hc, hro⟩ := xCall_sound hC k
  have hcr : callsOk Tryd.prog (roOnly C.own (xCall C k)) := by
    intro f args h o h' hx
    unfold roOnly at hx
    split at hx
    · cases hx
    · exact hc _ _ _ _ _ hx
  have hok : ∀ c, Tryd.f20.body = some c → codeOk Tryd.f20.ntmps c = true := codeOk_of (by kernel_rfl)
  unfold xParse at hx
  split at hx
  · rename_i r0 r1 dd rest hb
    have hok' := hok _ hb
    simp only [codeOk, Bool.and_eq_true] at hok'
    obtain ⟨k0, k1, k3, k4⟩ := hok'
    split at hx
    · rename_i hal
      have hlen : args.length ≤ Tryd.f20.ntmps := by rw [hal]; exact Nat.le_of_ble_eq_true rfl
      obtain ⟨e1, e2⟩ := startL_env (args := args) hlen
      unfold xParse4 at hx
      have hd : ∃ id t1 t2 p1 p2 a1 a2 ats, dd = .region id #[{ dst := some 13, op := .makeFunc (.func 31) #[] #[.tmp 2, .tmp 3], type := t1, pos := p1, after := a1, guard := none }, { dst := none, op := .defer { callee := .value (.tmp 13), args := #[], argTypes := ats }, type := t2, pos := p2, after := a2, guard := none }] false := by
        have hb2 : Tryd.f20.body = some (.seq _ (.seq _ (.seq _ _))) := rfl
        rw [hb] at hb2
        simp only [Option.some.injEq, Code.seq.injEq] at hb2
        obtain ⟨_, _, hdd, _⟩ := hb2
        exact ⟨_, _, _, _, _, _, _, _, hdd⟩
      obtain ⟨id, t1, t2, p1, p2, a1, a2, ats, rfl⟩ := hd
      split at hx
      · rename_i e1' h1' x0
        split at hx
        · rename_i e2' h2' x1
          split at hx
          · rename_i vs hvs
            split at hx
            · rename_i e4' h4' x3
              split at hx
              · rename_i us hus
                simp only [Option.some.injEq, Prod.mk.injEq] at hx
                obtain ⟨rfl, rfl⟩ := hx
                refine Sum.of_fwp Tryd.func20 hb (by kernel_rfl) hlen fun m0 w0 => ?_
                rw [← e1]
                obtain ⟨l0, q0, _⟩ := xCode_sound hC.T hC.mixed hc hcr hro hC.seqs _ r0 none ([], false) false h.length _ _ _ _ _ (fun hh => by cases hh) k0 e2 x0
                obtain ⟨l1, q1, _⟩ := xCode_sound hC.T hC.mixed hc hcr hro hC.seqs _ r1 none ([], false) false h.length _ _ _ _ _ (fun hh => by cases hh) k1 l0 x1
                refine fwp_seq q0 (fwp_seq q1 ?_)
                refine fwp_defer hC.T (by decide) hvs fun cap hcap => ?_
                rw [envL_put (fun t ht => by cases ht; rw [l1]; decide)]
                obtain ⟨l3, q3, _⟩ := xCode_sound hC.T hC.mixed hc hcr hro hC.seqs _ rest none ([dcall 31 cap], true) true h.length _ _ _ _ _ (fun _ => ⟨rfl, rfl⟩) k4 (by rw [putL_length]; exact l1) x3
                refine fwp_end hC.T (enters_fn Tryd.func31 (by kernel_rfl) (by kernel_rfl)) ?_ (awp_mono q3 ?_)
                · intro w
                  have hl2 : vs.length = 2 := by
                    obtain ⟨a, _, hh⟩ := Option.bind_eq_some_iff.1 hvs
                    obtain ⟨l, hl, rfl⟩ := Option.map_eq_some_iff.1 hh
                    obtain ⟨b, _, hh⟩ := Option.bind_eq_some_iff.1 hl
                    obtain ⟨l2, hl2, rfl⟩ := Option.map_eq_some_iff.1 hh
                    cases hl2; rfl
                  rw [hl2] at hcap
                  obtain ⟨x, y, rfl⟩ : ∃ x y, cap = [x, y] := by
                    rcases cap with _ | ⟨x, _ | ⟨y, _ | ⟨z, q⟩⟩⟩ <;> simp at hcap
                    exact ⟨x, y, rfl⟩
                  exact parse1_ret x y w
                · rintro x e5 h5 ⟨rfl, rfl, rfl⟩
                  exact ⟨.inr rfl, us, hus, rfl, rfl⟩
              · cases hx
            · cases hx
          · cases hx
        · cases hx
      · cases hx
    · cases hx
  · cases hx
end Go.Ab

namespace Go.Ab
open Go.Proofs

noncomputable def LIB2 : CallF := fun f args h => if f = 20 then xRo (xParse (XC2 200) 10 args (roH h)) h else LIB f args h

theorem LIB2_ok : ∀ f args h o h', LIB2 f args h = some (o, h') → Gives Tryd.prog f args h o h' ∧ ∃ x, h' = h ++ x := by
  intro f args h o h' hx
  unfold LIB2 at hx
  split at hx
  · rename_i hf; subst hf
    unfold xRo at hx
    split at hx
    · rename_i v h2 hb
      split at hx
      · rename_i hp
        simp only [Option.some.injEq, Prod.mk.injEq] at hx
        obtain ⟨rfl, rfl⟩ := hx
        refine ⟨.inr ⟨_, xParse_sound (XC2_ok 200) 10 hb, ?_⟩, [], by simp⟩
        rintro o3 h3 ⟨rfl, rfl⟩
        exact .inl ⟨v, rfl, hp, rfl, rfl⟩
      · simp only [Option.some.injEq, Prod.mk.injEq] at hx
        obtain ⟨rfl, rfl⟩ := hx
        refine ⟨.inr ⟨_, xParse_sound (XC2_ok 200) 10 hb, ?_⟩, _, rfl⟩
        rintro o3 h3 ⟨rfl, rfl⟩
        exact .inr ⟨rfl, rfl⟩
    · rename_i v h2 hb
      simp only [Option.some.injEq, Prod.mk.injEq] at hx
      obtain ⟨rfl, rfl⟩ := hx
      refine ⟨.inr ⟨_, xParse_sound (XC2_ok 200) 10 hb, ?_⟩, _, rfl⟩
      rintro o3 h3 ⟨rfl, rfl⟩
      exact .inr ⟨rfl, rfl⟩
    · cases hx
  · exact LIB_ok _ _ _ _ _ hx

noncomputable def XC3 : XC := { T := TY, fn := FN, lib := LIB2, seqs := SQ, own := fun f => f == 32 || f == 33 || f == 34, fuel := 300 }
theorem XC3_ok : XC3.ok Tryd.prog := ⟨TY_ok, by kernel_rfl, FN_ok, LIB2_ok, SQ_ok⟩
def st (l : List UInt8) : Value := .string ⟨l.toArray⟩
def isRet (x : Option (AOut × Heap)) : Bool := match x with | some (.ret _, _) => true | _ => false
theorem tp : isRet (xParse (XC2 200) 10 [st [49, 32, 48, 32, 49, 48, 50, 51, 32, 48, 32, 49, 48, 50, 51, 32, 48, 32, 48, 49, 51, 50, 32, 48, 32, 48, 49, 51, 50]] []) = true := by kernel_rfl
end Go.Ab
