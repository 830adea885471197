/- Contracts of the library functions and of Parse at the example. Conditions: none beyond the given model and program. -/
import Derived.Test.YtnimgapjllhccaaGreatDoorAbC
import Derived.Test.YtnimgapjllhccaaGreatDoorProg
import Derived.KernelRfl
import Derived.Shelf.Strings.Search1
import Derived.Shelf.Strings.OnBuilder
import Derived.Shelf.Strconv.Atoi
import Derived.Lib.AtoiErrMem
import Derived.Test.YtnimgapjllhccaaGreatDoorIt
import Derived.TacticsInMore
import Derived.RegionIn
import Derived.RecoverIn
namespace Go.Proofs
open Go.Shelf
def Tryz.l217_ren : Go.Shelf.Ren := ⟨fun | 217 => 111 | 266 => 121 | n => n, fun | 9 => 9 | 5 => 5 | 3 => 3 | n => n, fun | n => n⟩
theorem Tryz.l217 : Go.Proofs.Lays.n217 Tryz.prog Tryz.l217_ren := {
  mixed := by kernel_rfl
  f217 := Tryz.func111.trans (congrArg some (by kernel_rfl))
  f266 := Tryz.func121.trans (congrArg some (by kernel_rfl))
  t3 := Tryz.underlying3
  a3 := Tryz.isAgg3
  z3 := Tryz.sizeOf3
  v3 := Tryz.zeroValue3
  t5 := Tryz.underlying5
  a5 := Tryz.isAgg5
  z5 := Tryz.sizeOf5
  v5 := Tryz.zeroValue5
  t9 := Tryz.underlying9
  a9 := Tryz.isAgg9
  z9 := Tryz.sizeOf9
  v9 := Tryz.zeroValue9 }
def Tryz.l156_ren : Go.Shelf.Ren := ⟨fun | 156 => 55 | 165 => 65 | 166 => 66 | 169 => 67 | 240 => 79 | 241 => 80 | 276 => 92 | 277 => 93 | n => n, fun | 31 => 79 | 9 => 9 | 3 => 3 | 4 => 4 | 0 => 0 | 20 => 20 | 72 => 100 | 76 => 104 | 70 => 97 | 37 => 98 | 75 => 103 | 127 => 117 | 164 => 129 | 5 => 5 | 80 => 91 | n => n, fun | n => n⟩
theorem Tryz.l156 : Go.Proofs.Lays.n156 Tryz.prog Tryz.l156_ren := {
  mixed := by kernel_rfl
  f156 := Tryz.func55.trans (congrArg some (by kernel_rfl))
  f165 := Tryz.func65.trans (congrArg some (by kernel_rfl))
  f166 := Tryz.func66.trans (congrArg some (by kernel_rfl))
  f169 := Tryz.func67.trans (congrArg some (by kernel_rfl))
  f240 := Tryz.func79.trans (congrArg some (by kernel_rfl))
  f241 := Tryz.func80.trans (congrArg some (by kernel_rfl))
  f276 := Tryz.func92.trans (congrArg some (by kernel_rfl))
  f277 := Tryz.func93.trans (congrArg some (by kernel_rfl))
  t0 := Tryz.underlying0
  a0 := Tryz.isAgg0
  z0 := Tryz.sizeOf0
  v0 := Tryz.zeroValue0
  t3 := Tryz.underlying3
  a3 := Tryz.isAgg3
  z3 := Tryz.sizeOf3
  v3 := Tryz.zeroValue3
  t4 := Tryz.underlying4
  a4 := Tryz.isAgg4
  z4 := Tryz.sizeOf4
  v4 := Tryz.zeroValue4
  t9 := Tryz.underlying9
  a9 := Tryz.isAgg9
  z9 := Tryz.sizeOf9
  v9 := Tryz.zeroValue9
  t20 := Tryz.underlying20
  a20 := Tryz.isAgg20
  z20 := Tryz.sizeOf20
  v20 := Tryz.zeroValue20
  t31 := Tryz.underlying79
  a31 := Tryz.isAgg79
  z31 := Tryz.sizeOf79
  v31 := Tryz.zeroValue79
  t37 := Tryz.underlying98
  a37 := Tryz.isAgg98
  z37 := Tryz.sizeOf98
  v37 := Tryz.zeroValue98
  t70 := Tryz.underlying97
  a70 := Tryz.isAgg97
  z70 := Tryz.sizeOf97
  v70 := Tryz.zeroValue97
  t72 := Tryz.underlying100
  a72 := Tryz.isAgg100
  z72 := Tryz.sizeOf100
  v72 := Tryz.zeroValue100
  t75 := Tryz.underlying103
  a75 := Tryz.isAgg103
  z75 := Tryz.sizeOf103
  v75 := Tryz.zeroValue103
  t76 := Tryz.underlying104
  a76 := Tryz.isAgg104
  z76 := Tryz.sizeOf104
  v76 := Tryz.zeroValue104
  t127 := Tryz.underlying117
  a127 := Tryz.isAgg117
  z127 := Tryz.sizeOf117
  v127 := Tryz.zeroValue117
  t164 := Tryz.underlying129
  a164 := Tryz.isAgg129
  z164 := Tryz.sizeOf129
  v164 := Tryz.zeroValue129 }
def Tryz.l172_ren : Go.Shelf.Ren := ⟨fun | 172 => 68 | 244 => 81 | 245 => 82 | 247 => 94 | 279 => 95 | 280 => 96 | 281 => 97 | 282 => 98 | 287 => 108 | 316 => 109 | 171 => 54 | 205 => 110 | 321 => 119 | 322 => 120 | 243 => 64 | 246 => 78 | 283 => 88 | 284 => 89 | 285 => 90 | 286 => 91 | 129 => 104 | 317 => 103 | 318 => 105 | 319 => 106 | 320 => 107 | 337 => 117 | 338 => 118 | n => n, fun | 9 => 9 | 3 => 3 | 75 => 103 | 76 => 104 | 4 => 4 | 5 => 5 | 167 => 132 | 37 => 98 | 0 => 0 | 85 => 133 | 2 => 2 | 168 => 135 | 53 => 124 | 175 => 148 | 46 => 146 | 210 => 152 | 127 => 117 | 145 => 165 | 143 => 163 | 21 => 21 | 171 => 123 | 173 => 127 | 212 => 142 | 51 => 143 | 20 => 20 | 213 => 144 | 232 => 168 | 233 => 169 | 80 => 91 | n => n, fun | 15 => 2 | 16 => 3 | 17 => 0 | 18 => 6 | 19 => 7 | n => n⟩
theorem Tryz.l172 : Go.Proofs.Lays.n172 Tryz.prog Tryz.l172_ren := {
  mixed := by kernel_rfl
  f129 := Tryz.func104.trans (congrArg some (by kernel_rfl))
  f171 := Tryz.func54.trans (congrArg some (by kernel_rfl))
  f172 := Tryz.func68.trans (congrArg some (by kernel_rfl))
  f205 := Tryz.func110.trans (congrArg some (by kernel_rfl))
  f243 := Tryz.func64.trans (congrArg some (by kernel_rfl))
  f244 := Tryz.func81.trans (congrArg some (by kernel_rfl))
  f245 := Tryz.func82.trans (congrArg some (by kernel_rfl))
  f246 := Tryz.func78.trans (congrArg some (by kernel_rfl))
  f247 := Tryz.func94.trans (congrArg some (by kernel_rfl))
  f279 := Tryz.func95.trans (congrArg some (by kernel_rfl))
  f280 := Tryz.func96.trans (congrArg some (by kernel_rfl))
  f281 := Tryz.func97.trans (congrArg some (by kernel_rfl))
  f282 := Tryz.func98.trans (congrArg some (by kernel_rfl))
  f283 := Tryz.func88.trans (congrArg some (by kernel_rfl))
  f284 := Tryz.func89.trans (congrArg some (by kernel_rfl))
  f285 := Tryz.func90.trans (congrArg some (by kernel_rfl))
  f286 := Tryz.func91.trans (congrArg some (by kernel_rfl))
  f287 := Tryz.func108.trans (congrArg some (by kernel_rfl))
  f316 := Tryz.func109.trans (congrArg some (by kernel_rfl))
  f317 := Tryz.func103.trans (congrArg some (by kernel_rfl))
  f318 := Tryz.func105.trans (congrArg some (by kernel_rfl))
  f319 := Tryz.func106.trans (congrArg some (by kernel_rfl))
  f320 := Tryz.func107.trans (congrArg some (by kernel_rfl))
  f321 := Tryz.func119.trans (congrArg some (by kernel_rfl))
  f322 := Tryz.func120.trans (congrArg some (by kernel_rfl))
  f337 := Tryz.func117.trans (congrArg some (by kernel_rfl))
  f338 := Tryz.func118.trans (congrArg some (by kernel_rfl))
  t0 := Tryz.underlying0
  a0 := Tryz.isAgg0
  z0 := Tryz.sizeOf0
  v0 := Tryz.zeroValue0
  t2 := Tryz.underlying2
  a2 := Tryz.isAgg2
  z2 := Tryz.sizeOf2
  v2 := Tryz.zeroValue2
  t3 := Tryz.underlying3
  a3 := Tryz.isAgg3
  z3 := Tryz.sizeOf3
  v3 := Tryz.zeroValue3
  t4 := Tryz.underlying4
  a4 := Tryz.isAgg4
  z4 := Tryz.sizeOf4
  v4 := Tryz.zeroValue4
  t5 := Tryz.underlying5
  a5 := Tryz.isAgg5
  z5 := Tryz.sizeOf5
  v5 := Tryz.zeroValue5
  t9 := Tryz.underlying9
  a9 := Tryz.isAgg9
  z9 := Tryz.sizeOf9
  v9 := Tryz.zeroValue9
  t20 := Tryz.underlying20
  a20 := Tryz.isAgg20
  z20 := Tryz.sizeOf20
  v20 := Tryz.zeroValue20
  t21 := Tryz.underlying21
  a21 := Tryz.isAgg21
  z21 := Tryz.sizeOf21
  v21 := Tryz.zeroValue21
  t37 := Tryz.underlying98
  a37 := Tryz.isAgg98
  z37 := Tryz.sizeOf98
  v37 := Tryz.zeroValue98
  t46 := Tryz.underlying146
  a46 := Tryz.isAgg146
  z46 := Tryz.sizeOf146
  v46 := Tryz.zeroValue146
  t51 := Tryz.underlying143
  a51 := Tryz.isAgg143
  z51 := Tryz.sizeOf143
  v51 := Tryz.zeroValue143
  t53 := Tryz.underlying124
  a53 := Tryz.isAgg124
  z53 := Tryz.sizeOf124
  v53 := Tryz.zeroValue124
  t75 := Tryz.underlying103
  a75 := Tryz.isAgg103
  z75 := Tryz.sizeOf103
  v75 := Tryz.zeroValue103
  t76 := Tryz.underlying104
  a76 := Tryz.isAgg104
  z76 := Tryz.sizeOf104
  v76 := Tryz.zeroValue104
  t85 := Tryz.underlying133
  a85 := Tryz.isAgg133
  z85 := Tryz.sizeOf133
  v85 := Tryz.zeroValue133
  t127 := Tryz.underlying117
  a127 := Tryz.isAgg117
  z127 := Tryz.sizeOf117
  v127 := Tryz.zeroValue117
  t143 := Tryz.underlying163
  a143 := Tryz.isAgg163
  z143 := Tryz.sizeOf163
  v143 := Tryz.zeroValue163
  t145 := Tryz.underlying165
  a145 := Tryz.isAgg165
  z145 := Tryz.sizeOf165
  v145 := Tryz.zeroValue165
  t167 := Tryz.underlying132
  a167 := Tryz.isAgg132
  z167 := Tryz.sizeOf132
  v167 := Tryz.zeroValue132
  t168 := Tryz.underlying135
  a168 := Tryz.isAgg135
  z168 := Tryz.sizeOf135
  v168 := Tryz.zeroValue135
  t171 := Tryz.underlying123
  a171 := Tryz.isAgg123
  z171 := Tryz.sizeOf123
  v171 := Tryz.zeroValue123
  t173 := Tryz.underlying127
  a173 := Tryz.isAgg127
  z173 := Tryz.sizeOf127
  v173 := Tryz.zeroValue127
  t175 := Tryz.underlying148
  a175 := Tryz.isAgg148
  z175 := Tryz.sizeOf148
  v175 := Tryz.zeroValue148
  t210 := Tryz.underlying152
  a210 := Tryz.isAgg152
  z210 := Tryz.sizeOf152
  v210 := Tryz.zeroValue152
  t212 := Tryz.underlying142
  a212 := Tryz.isAgg142
  z212 := Tryz.sizeOf142
  v212 := Tryz.zeroValue142
  t213 := Tryz.underlying144
  a213 := Tryz.isAgg144
  z213 := Tryz.sizeOf144
  t232 := Tryz.underlying168
  a232 := Tryz.isAgg168
  z232 := Tryz.sizeOf168
  v232 := Tryz.zeroValue168
  t233 := Tryz.underlying169
  a233 := Tryz.isAgg169
  z233 := Tryz.sizeOf169
  v233 := Tryz.zeroValue169
  g15 := by kernel_rfl
  g16 := by kernel_rfl
  g17 := by kernel_rfl
  g18 := by kernel_rfl
  g19 := by kernel_rfl }
theorem Tryz.x156 : Builder.Extra Tryz.prog Tryz.l156_ren := {
  sizeBuilder := by kernel_rfl
  liesBuilder := by kernel_rfl
  t5 := Tryz.underlying5
  a5 := Tryz.isAgg5
  z5 := Tryz.sizeOf5
  v5 := Tryz.zeroValue5
  infoByte := by kernel_rfl
  cellsByte := by kernel_rfl
  sizeByte := by kernel_rfl
  neB5 := by decide }
end Go.Proofs
namespace Go.Ab
open Go.Proofs Go.Shelf Go.RowKit
theorem lib_IndexByte (s : ByteArray) (c : Int) (h : Heap) : Gives Tryz.prog 111 [.string s, .int .u8 c] h (.ret (.int .i64 (Lib.indexByte s.data.toList c.toNat.toUInt8))) h :=
  Gives.of_calls (enters_fn Tryz.func111 (by kernel_rfl) (by kernel_rfl)) (by simp [plain]) rfl (fun w => (Any.stringslite_IndexByte Tryz.l217 s c w).mono fun e w' ⟨h1, h2⟩ => ⟨h1, h2 ▸ Below.refl _ _⟩) h

theorem below_bytes (w : World) (t : TypeId) (s : ByteArray) : Below w.heap.size w (Lib.bytesWorld w t s) := by
  exact Lib.bytesWorld_below w t s

theorem lib_Atoi (s : ByteArray) (n : Int) (hl : s.size ≤ 18) (hs : Lib.atoi s.data.toList = some n) (h : Heap) : Gives Tryz.prog 68 [.string s] h (.ret (.tuple #[.int .i64 n, .nilIface])) h :=
  Gives.of_calls (enters_fn Tryz.func68 (by kernel_rfl) (by kernel_rfl)) (by simp [plain]) rfl (fun w => (Any.strconv_Atoi Tryz.l172 s n hl hs w).mono fun e w' ⟨h1, t, h2⟩ => ⟨h1, h2 ▸ below_bytes _ _ _⟩) h

def joinV (xs : List ByteArray) (sep : ByteArray) : Value := .string ⟨(Lib.join (xs.map (·.data.toList)) sep.data.toList).toArray⟩

theorem sum_Join {h : Heap} {b o n : Nat} {bl : Blk} {xs : List ByteArray} {sep : ByteArray} (hb : hblk h b = some bl) (hn : 0 < n) (hlen : xs.length = n) (hxs : ∀ (j : Nat) (x : ByteArray), xs[j]? = some x → bl.cells[o + j]? = some (.string x))
    (hN : n ≤ 140737488355328) (hJ : (Lib.join (xs.map (·.data.toList)) sep.data.toList).length ≤ 140737488355328) :
    Sum Tryz.prog 55 [.slice (some ⟨b, o, none⟩) n 1, .string sep] h fun out h2 => out = .ret (joinV xs sep) ∧ h2 = h := by
  refine ⟨enters_fn Tryz.func55 (by kernel_rfl) (by kernel_rfl), fun m w args' rel hva => ?_⟩
  obtain ⟨v1, r1, rfl, k1, k2⟩ := hva.cons_inv
  obtain ⟨v2, r2, rfl, k3, k4⟩ := k2.cons_inv
  have := k4.nil_inv
  subst this
  have := k3.plain_eq rfl
  subst this
  cases k1 with
  | sliceNil => omega
  | slice0 => omega
  | slice i o n z c L hL hnc hz hc hmp =>
    obtain ⟨cs, el, fz, hw, hcells, _⟩ := (rel.blk b bl L hb hL).row hmp
    have hcell : ∀ (j : Nat) (x : ByteArray), xs[j]? = some x → w.cell? ⟨L.b, L.sh + o + j, none⟩ = some (.string x) := by
      intro j x hj
      obtain ⟨v', h1, h2⟩ := hcells (o + j) _ (hxs j x hj)
      have := h2.plain_eq rfl
      subst this
      rw [← Nat.add_assoc] at h1
      simp [World.cell?, hw, h1]
    have hlt : L.b < w.heap.size := (Array.getElem?_eq_some_iff.1 hw).1
    have hcl := Any.strings_Join Tryz.l156 Tryz.x156 L.b (L.sh + o) c xs sep w hcell hlt (by omega) (by omega) hJ
    rw [hlen] at hcl
    refine (show Calls Tryz.prog 55 #[.slice (some ⟨L.b, L.sh + o, none⟩) n c, .string sep] w _ from hcl).mono ?_
    rintro e w' ⟨rfl, hbl⟩
    have st : St h.length w.heap.size m h w := ⟨rel, Nat.le_refl _, fun i b L hi hb _ => (by rw [hblk_ge hi] at hb; cases hb), Nat.le_refl _⟩
    exact ⟨m, .ret (joinV xs sep), h, ⟨rfl, rfl⟩, VRel.of_plain _ _ rfl, (Tr.refl st).grow hbl⟩

def toStrs : List Value → Option (List ByteArray)
  | [] => some []
  | .string s :: q => match toStrs q with | some r => some (s :: r) | none => none
  | _ => none

theorem toStrs_get : ∀ (l : List Value) (xs : List ByteArray), toStrs l = some xs → xs.length = l.length ∧ ∀ (j : Nat) (x : ByteArray), xs[j]? = some x → l[j]? = some (.string x) := by
  intro l
  induction l with
  | nil => intro x h; simp [toStrs] at h; subst h; simp
  | cons v q ih =>
    intro x h
    unfold toStrs at h
    split at h
    · cases ‹_ = []›
    · rename_i s q' heq
      cases heq
      split at h
      · rename_i r hr
        cases h
        obtain ⟨h1, h2⟩ := ih r hr
        refine ⟨by simp [h1], ?_⟩
        intro j y hj
        cases j with
        | zero => simp at hj; subst hj; rfl
        | succ j => exact h2 j y (by simpa using hj)
      · cases h
    · cases h

def LIB : CallF := fun f args h =>
  if f = 111 then
    match args with
    | [.string s, .int .u8 c] => some (.ret (.int .i64 (Lib.indexByte s.data.toList c.toNat.toUInt8)), h)
    | _ => none
  else if f = 55 then
    match args with
    | [.slice (some ⟨b, 0, none⟩) n 1, .string sep] =>
      match hblk h b with
      | some bl =>
        match toStrs bl.cells with
        | some xs => if (decide (0 < n) && decide (xs.length = n) && decide (n ≤ 140737488355328) && decide ((Lib.join (xs.map (·.data.toList)) sep.data.toList).length ≤ 140737488355328)) = true then some (.ret (joinV xs sep), h) else none
        | none => none
      | none => none
    | _ => none
  else if f = 68 then
    match args with
    | [.string s] => if s.size ≤ 18 then (match Lib.atoi s.data.toList with | some n => some (.ret (.tuple #[.int .i64 n, .nilIface]), h) | none => none) else none
    | _ => none
  else none

theorem LIB_ok : ∀ f args h o h', LIB f args h = some (o, h') → Gives Tryz.prog f args h o h' ∧ ∃ x, h' = h ++ x := by
  intro f args h o h' hx
  unfold LIB at hx
  split at hx
  · rename_i hf; subst hf
    split at hx
    · rename_i s c
      simp only [Option.some.injEq, Prod.mk.injEq] at hx
      obtain ⟨rfl, rfl⟩ := hx
      exact ⟨lib_IndexByte s c h, [], by simp⟩
    · cases hx
  · split at hx
    · rename_i hf; subst hf
      split at hx
      · rename_i b n sep
        split at hx
        · rename_i bl hb
          split at hx
          · rename_i xs hxs
            split at hx
            · rename_i hck
              simp only [Bool.and_eq_true, decide_eq_true_eq] at hck
              simp only [Option.some.injEq, Prod.mk.injEq] at hx
              obtain ⟨rfl, rfl⟩ := hx
              obtain ⟨h1, h2⟩ := toStrs_get _ _ hxs
              have hb' : hblk (roH h) b = some ⟨bl.cells, false⟩ := by
                unfold hblk at hb ⊢
                simp only [roH, List.getElem?_map]
                cases hy : h[b]? with
                | none => simp [hy] at hb
                | some y => rw [hy] at hb; simp at hb; subst hb; rfl
              refine ⟨.inr ⟨_, sum_Join (h := roH h) hb' hck.1.1.1 hck.1.1.2 (fun j x hj => by simpa using h2 j x hj) hck.1.2 hck.2, ?_⟩, [], by simp⟩
              rintro o2 h2 ⟨rfl, rfl⟩
              exact .inl ⟨_, rfl, rfl, rfl, rfl⟩
            · cases hx
          · cases hx
        · cases hx
      · cases hx
    · split at hx
      · rename_i hf; subst hf
        split at hx
        · rename_i s
          split at hx
          · rename_i hl
            split at hx
            · rename_i n hn
              simp only [Option.some.injEq, Prod.mk.injEq] at hx
              obtain ⟨rfl, rfl⟩ := hx
              exact ⟨lib_Atoi s n hl hn h, [], by simp⟩
            · cases hx
          · cases hx
        · cases hx
      · cases hx
end Go.Ab

namespace Go.Ab
open Go.Proofs

theorem parse1_ret (x y : Value) (w : World) : CallsDIn Fence.wide 0 Tryz.prog 57 #[x, y] .returning w fun e u' w' => (∃ v, e = .returned v) ∧ u' = .returning ∧ w' = w := by
  have hne : (binOp .neq 20 .nilIface .nilIface).run Tryz.prog w = .ok (.bool false) w := by
    simp [binOp, Op.equal, Op.maxDepth, equal_iface0 9999 Tryz.underlying20]
  have hgd : ∀ x y : Operand, (isCst x || isCst y) = true → (eqGuard .neq 20 x y .nilIface .nilIface).run Tryz.prog w = .ok () w := fun x y h => guard_cst h
  refine callsDIn_of_wpSIn Tryz.func57 rfl trivial fun c₀ cs hu => ?_
  apply wpSIn_seq
  apply wpSIn_region
  simp [wpOpsSIn, go_sem, recoverD, hu, Tryz.ntmps57, Exit.thenS]
  apply wpSIn_seq
  apply wpSIn_region
  simp [wpOpsSIn, go_sem, hne, Exit.thenS]
  refine wpSIn_cond (t := false) (by simp [Act.eval, Array.replicate]) ?_
  simp only [Bool.false_eq_true, if_false]
  refine wpSIn_of_wpIn rfl (wpIn_skip ?_)
  cases c₀
  simp_all [bodyPostS, results, Tryz.results57]
end Go.Ab

namespace Go.Ab
open Go.Proofs

noncomputable def XC2 (fuel : Nat) : XC := { T := TY, fn := FN, lib := LIB, seqs := SQ, own := fun f => f == 58 || f == 59 || f == 60, fuel }

theorem XC2_ok (fuel : Nat) : (XC2 fuel).ok Tryz.prog := ⟨TY_ok, by kernel_rfl, FN_ok, LIB_ok, SQ_ok⟩

def xParse4 (C : XC) (call callR : CallF) (res : List ResultVar) (r0 r1 rest : Code) (args : List Value) (n : Nat) (h : Heap) : Option (AOut × Heap) :=
  match xCode C.T call callR C.seqs C.fuel false h.length r0 (startL args n) h with
  | some (.normal, e1, h1) =>
    match xCode C.T call callR C.seqs C.fuel false h.length r1 e1 h1 with
    | some (.normal, e2, h2) =>
        match eOps (envL e2) [.tmp 2, .tmp 3] with
        | some vs =>
          match xCode C.T call callR C.seqs C.fuel true h.length rest (putL e2 (some 13) (.func (.func 57) #[] ⟨vs⟩)) h2 with
          | some (.ret, e4, h4) => match aResults C.T (envL e4) h4 res with | some vs => some (.ret (tupleOf vs), h4) | none => none
          | _ => none
        | none => none
    | _ => none
  | _ => none

noncomputable def xParse (C : XC) (k : Nat) (args : List Value) (h : Heap) : Option (AOut × Heap) :=
  match Tryz.f34.body with
  | some (.seq r0 (.seq r1 (.seq _ rest))) => if args.length = 1 then xParse4 C (xCall C k) (roOnly C.own (xCall C k)) Tryz.f34.results.toList r0 r1 rest args Tryz.f34.ntmps h else none
  | _ => none

theorem xParse_sound {C : XC} (hC : C.ok Tryz.prog) (k : Nat) {args : List Value} {h : Heap} {o : AOut} {h' : Heap} (hx : xParse C k args h = some (o, h')) : Sum Tryz.prog 34 args h fun o2 h2 => o2 = o ∧ h2 = h' := by
  obtain ⟨hc, hro⟩ := xCall_sound hC k
  have hcr : callsOk Tryz.prog (roOnly C.own (xCall C k)) := by
    intro f args h o h' hx
    unfold roOnly at hx
    split at hx
    · cases hx
    · exact hc _ _ _ _ _ hx
  have hok : ∀ c, Tryz.f34.body = some c → codeOk Tryz.f34.ntmps c = true := codeOk_of (by kernel_rfl)
  unfold xParse at hx
  split at hx
  · rename_i r0 r1 dd rest hb
    have hok' := hok _ hb
    simp only [codeOk, codeOkP, Bool.and_eq_true] at hok'
    obtain ⟨k0, k1, k3, k4⟩ := hok'
    split at hx
    · rename_i hal
      have hlen : args.length ≤ Tryz.f34.ntmps := by rw [hal]; exact Nat.le_of_ble_eq_true rfl
      obtain ⟨e1, e2⟩ := startL_env (args := args) hlen
      unfold xParse4 at hx
      have hd : ∃ id t1 t2 p1 p2 a1 a2 ats, dd = .region id #[{ dst := some 13, op := .makeFunc (.func 57) #[] #[.tmp 2, .tmp 3], type := t1, pos := p1, after := a1, guard := none }, { dst := none, op := .defer { callee := .value (.tmp 13), args := #[], argTypes := ats }, type := t2, pos := p2, after := a2, guard := none }] false := by
        have hb2 : Tryz.f34.body = some (.seq _ (.seq _ (.seq _ _))) := rfl
        rw [hb] at hb2
        simp only [Option.some.injEq, Code.seq.injEq] at hb2
        obtain ⟨_, _, hdd, _⟩ := hb2
        exact ⟨_, _, _, _, _, _, _, _, hdd⟩
      obtain ⟨id, t1, t2, p1, p2, a1, a2, ats, rfl⟩ := hd
      split at hx
      · rename_i e1' h1' x0
        split at hx
        · rename_i e2' h2' x1
          split at hx
          · rename_i vs hvs
            split at hx
            · rename_i e4' h4' x3
              split at hx
              · rename_i us hus
                simp only [Option.some.injEq, Prod.mk.injEq] at hx
                obtain ⟨rfl, rfl⟩ := hx
                refine Sum.of_fwp Tryz.func34 hb (by kernel_rfl) hlen fun m0 w0 => ?_
                rw [← e1]
                obtain ⟨l0, q0, _⟩ := xCode_sound hC.T hC.mixed hc hcr hro hC.seqs _ r0 none ([], false) false h.length _ _ _ _ _ (fun hh => by cases hh) k0 e2 x0
                obtain ⟨l1, q1, _⟩ := xCode_sound hC.T hC.mixed hc hcr hro hC.seqs _ r1 none ([], false) false h.length _ _ _ _ _ (fun hh => by cases hh) k1 l0 x1
                refine fwp_seq q0 (fwp_seq q1 ?_)
                refine fwp_defer hC.T (by decide) hvs fun cap hcap => ?_
                rw [envL_put (fun t ht => by cases ht; rw [l1]; decide)]
                obtain ⟨l3, q3, _⟩ := xCode_sound hC.T hC.mixed hc hcr hro hC.seqs _ rest none ([dcall 57 cap], true) true h.length _ _ _ _ _ (fun _ => ⟨rfl, rfl⟩) k4 (by rw [putL_length]; exact l1) x3
                refine fwp_end hC.T (enters_fn Tryz.func57 (by kernel_rfl) (by kernel_rfl)) ?_ (awp_mono q3 ?_)
                · intro w
                  have hl2 : vs.length = 2 := by
                    obtain ⟨a, _, hh⟩ := Option.bind_eq_some_iff.1 hvs
                    obtain ⟨l, hl, rfl⟩ := Option.map_eq_some_iff.1 hh
                    obtain ⟨b, _, hh⟩ := Option.bind_eq_some_iff.1 hl
                    obtain ⟨l2, hl2, rfl⟩ := Option.map_eq_some_iff.1 hh
                    cases hl2; rfl
                  rw [hl2] at hcap
                  obtain ⟨x, y, rfl⟩ : ∃ x y, cap = [x, y] := by
                    rcases cap with _ | ⟨x, _ | ⟨y, _ | ⟨z, q⟩⟩⟩ <;> simp at hcap
                    exact ⟨x, y, rfl⟩
                  exact parse1_ret x y w
                · rintro x e5 h5 ⟨rfl, rfl, rfl⟩
                  exact ⟨.inr rfl, us, hus, rfl, rfl⟩
              · cases hx
            · cases hx
          · cases hx
        · cases hx
      · cases hx
    · cases hx
  · cases hx
end Go.Ab

namespace Go.Ab
open Go.Proofs

noncomputable def LIB2 : CallF := fun f args h => if f = 34 then xRo (xParse (XC2 200) 10 args (roH h)) h else LIB f args h

theorem LIB2_ok : ∀ f args h o h', LIB2 f args h = some (o, h') → Gives Tryz.prog f args h o h' ∧ ∃ x, h' = h ++ x := by
  intro f args h o h' hx
  unfold LIB2 at hx
  split at hx
  · rename_i hf; subst hf
    unfold xRo at hx
    split at hx
    · rename_i v h2 hb
      split at hx
      · rename_i hp
        simp only [Option.some.injEq, Prod.mk.injEq] at hx
        obtain ⟨rfl, rfl⟩ := hx
        refine ⟨.inr ⟨_, xParse_sound (XC2_ok 200) 10 hb, ?_⟩, [], by simp⟩
        rintro o3 h3 ⟨rfl, rfl⟩
        exact .inl ⟨v, rfl, hp, rfl, rfl⟩
      · simp only [Option.some.injEq, Prod.mk.injEq] at hx
        obtain ⟨rfl, rfl⟩ := hx
        refine ⟨.inr ⟨_, xParse_sound (XC2_ok 200) 10 hb, ?_⟩, _, rfl⟩
        rintro o3 h3 ⟨rfl, rfl⟩
        exact .inr ⟨rfl, rfl⟩
    · rename_i v h2 hb
      simp only [Option.some.injEq, Prod.mk.injEq] at hx
      obtain ⟨rfl, rfl⟩ := hx
      refine ⟨.inr ⟨_, xParse_sound (XC2_ok 200) 10 hb, ?_⟩, _, rfl⟩
      rintro o3 h3 ⟨rfl, rfl⟩
      exact .inr ⟨rfl, rfl⟩
    · cases hx
  · exact LIB_ok _ _ _ _ _ hx

noncomputable def XC3 : XC := { T := TY, fn := FN, lib := LIB2, seqs := SQ, own := fun f => f == 58 || f == 59 || f == 60, fuel := 300 }
theorem XC3_ok : XC3.ok Tryz.prog := ⟨TY_ok, by kernel_rfl, FN_ok, LIB2_ok, SQ_ok⟩
def st (l : List UInt8) : Value := .string ⟨l.toArray⟩
def isRet (x : Option (AOut × Heap)) : Bool := match x with | some (.ret _, _) => true | _ => false
theorem tp : isRet (xParse (XC2 200) 10 [st [49, 32, 48, 32, 49, 48, 50, 51, 32, 48, 32, 49, 48, 50, 51, 32, 48, 32, 48, 49, 51, 50, 32, 48, 32, 48, 49, 51, 50]] []) = true := by kernel_rfl
end Go.Ab
