/-
  What is laid ahead is led and takes what waits: tolseylaw22.PropPlays.
-/
import Derived.Test.YtcfhkpjheemkgaaGreatPlaysBase
import Derived.Deep.CutBlock
import Derived.Deep.DeepCutAuto
namespace Go.Proofs.YtcfhkpjheemkgaaGreat.propPlays
set_option linter.unusedSectionVars false
set_option linter.unnecessarySimpa false
set_option linter.unusedSimpArgs false
set_option linter.unusedVariables false
open Go.RowKit Go.MapKept

/-- A proof kept apart. -/
structure Box_ (A : Prop) : Prop where
  out : A
theorem andThen2_ {A B G : Prop} (a : A) (b : B) (p : Box_ A → Box_ B → G) : G := p ⟨a⟩ ⟨b⟩
noncomputable def andThen2 {A B G : Prop} (dA : PLift A) (dB : PLift B) (p : Box_ A → Box_ B → G) : PLift G := ⟨andThen2_ dA.down dB.down p⟩
set_option maxRecDepth 100000 in
set_option maxHeartbeats 16000000 in
noncomputable def walkD : PLift (∀ (W : World) (a0 : Int) (_ : (Lit.int .i64 a0).wf = true) (a1 : Option Addr) (len1 cap1 : Nat) (z1 : List Int) (w1 : IsRow .i64 W a1 len1 cap1 z1) (a2 : Option Addr) (len2 cap2 : Nat) (z2 : List Int) (w2 : IsRow .i64 W a2 len2 cap2 z2) (a3 : Int) (_ : (Lit.int .i64 a3).wf = true) (a4 : Int) (_ : (Lit.int .i64 a4).wf = true) (a5 : Int) (_ : (Lit.int .i64 a5).wf = true) (a6 : Int) (_ : (Lit.int .i64 a6).wf = true) (a7 : Int) (_ : (Lit.int .i64 a7).wf = true),
    Calls Tryz.prog 5 #[.int .i64 a0, .slice a1 len1 cap1, .slice a2 len2 cap2, .int .i64 a3, .int .i64 a4, .int .i64 a5, .int .i64 a6, .int .i64 a7] W fun e w' => e = .returned (.bool true) ∧ Below W.heap.size W w') := by
 apply andThen2
 case p =>
  intro hA_ hB_
  intro W a0 _ a1 len1 cap1 z1 w1 a2 len2 cap2 z2 w2 a3 _ a4 _ a5 _ a6 _ a7 _
  obtain ⟨hi1, hlen1⟩ := IntsAt.of_row w1
  obtain ⟨ls, hls⟩ : ∃ ls, ls = z1.take len1 := ⟨_, rfl⟩
  rw [← hls] at hi1 hlen1
  obtain ⟨hi2, hlen2⟩ := IntsAt.of_row w2
  obtain ⟨is, his⟩ : ∃ ls, ls = z2.take len2 := ⟨_, rfl⟩
  rw [← his] at hi2 hlen2
  have HI1 := Lib.hid hi1
  have HLEN1 := Lib.hid hlen1
  have HI2 := Lib.hid hi2
  have HLEN2 := Lib.hid hlen2
  clear hi1 hlen1 hls w1 hi2 hlen2 his w2
  go_enter Tryz.func5, Tryz.ntmps5
  go_wp2_with fail
  refine (world_new 1 (Sys.start W)).mono ?_
  rintro e w1 ⟨p, d, rfl, h⟩
  have h1 := h.putN 0 rfl
  rw [five_] at h1
  change Sys w1 (five (worldT p d A0) emp emp emp emp) [base W] at h1
  have H1 := Lib.hid h1
  clear h h1
  go_wp2_with fail
  refine (ledg_new 4 (by decide) H1.out).mono ?_
  rintro e w2 ⟨pl, rfl, h⟩
  have h1 := h.putN 4 rfl
  rw [five4] at h1
  have H2 := Lib.hid h1
  clear h h1 H1
  go_wp2_with fail
  refine (tree_new H2.out rfl (by have := aw_len.1; omega)).mono ?_
  rintro e w3 ⟨pt, rfl, h⟩
  rw [five0, aw_root] at h
  have h1 := h.putN 1 rfl
  rw [five1] at h1
  change Sys w3 (five (worldT p d A1) (treeT pt p 1 [(1, zeroBlk)]) emp emp (ledgT pl 4)) [base W] at h1
  have H3 := Lib.hid h1
  clear h h1 H2
  go_wp2_with fail
  refine (clog_new H3.out rfl).mono ?_
  rintro e w4 ⟨pg, rfl, h⟩
  have h1 := h.putN 2 rfl
  rw [five2] at h1
  have H4 := Lib.hid h1
  clear h h1 H3
  go_wp2_with fail
  refine (pool_new 9 H4.out).mono ?_
  rintro e w5 ⟨pp, rfl, h⟩
  have h1 := h.putN 3 rfl
  rw [five3] at h1
  have H5 := Lib.hid h1
  clear h h1 H4
  go_wp2_with fail
  refine (config15 a0 H5.out).mono ?_
  rintro e w6 ⟨he, h⟩
  obtain ⟨c, hc⟩ : ∃ c, c = cfg15 a0 := ⟨_, rfl⟩
  rw [← hc] at he
  have hg : c.Good := by rw [hc]; exact cfg15_good a0
  have hbt : 1 ≤ c.bt ∧ c.bt ≤ 4 := by rw [hc]; show 1 ≤ a0 / 512 % 4 + 1 ∧ a0 / 512 % 4 + 1 ≤ 4; omega
  have HG := Lib.hid hg
  have HBT := Lib.hid hbt
  obtain rfl : e = .returned (.agg #[.int .i64 c.f, .int .i64 c.n, .int .i64 c.cl, .int .i64 c.ba, .int .i64 c.mo, .int .i64 c.bt, .int .i64 c.po, .int .i64 c.wi]) := he
  obtain ⟨nc, x6, EN6, EX6, ES6, H6⟩ := Sys.box h (.cells #[.int .i64 c.f, .int .i64 c.n, .int .i64 c.cl, .int .i64 c.ba, .int .i64 c.mo, .int .i64 c.bt, .int .i64 c.po, .int .i64 c.wi] 23 (0, 0))
  have h1 := H6.out.push (F := fun _ => False) (t := own 55 4 (.slice none 0 0) 0 []) (Chg.refl _ _) ⟨Own.nil _ _ _, by funext k; simp [Value.ownBlock]⟩ (fun _ h => h.elim)
  have H7 := Lib.hid h1
  clear h h1 hc hg hbt H5 H6
  go_upto_region 9 with fail
  rw [EX6.out, EN6.out]
  go_wp2_with fail
  go_loopw [23, 24] (fun fv i wr => ∃ (j : Nat) (fa : Option Addr) (fc : Nat) (X : WX) (LP : List EnvX), j ≤ 6 ∧ i = .int .i64 j ∧ fv = .slice fa j fc ∧ Hid (EW X LP j) ∧ Sys wr (five (worldT p d X) (treeT pt p 1 [(1, zeroBlk)]) (logT pg p pt 1 [] []) (poolT pp p (imin (imax 9 0) 1000) LP) (ledgT pl 4)) (own 55 4 (.slice fa j fc) j (flatE (fewP j)) :: blk nc (.cells #[.int .i64 c.f, .int .i64 c.n, .int .i64 c.cl, .int .i64 c.ba, .int .i64 c.mo, .int .i64 c.bt, .int .i64 c.po, .int .i64 c.wi] 23 (0, 0)) :: [base W])) (fun _ i _ => 6 - (intOf i).toNat)
  case atStart => exact ⟨0, none, 0, A1, [], by omega, rfl, rfl, EW.start, H7.out⟩
  case round =>
    obtain ⟨j, fa, fc, X, LP, hj, rfl, rfl, HEW, hR⟩ := hrel
    by_cases hlt : j < 6
    · have hjl : (j : Int) < 6 := by omega
      have hjw : IntKind.i64.wrap ((j : Int) + 1) = (j : Int) + 1 := by rw [IntKind.wrap_i64]; omega
      have hm4 : bits BinOp.and IntKind.i64 (j : Int) 3 = ((j : Int) % 4) := i64_andm3 _
      have hq4 : (j : Int).tdiv 4 = ((j : Int) / 4) := by exact Int.tdiv_eq_ediv_of_nonneg (by omega)
      have hw4 : IntKind.i64.wrap ((j : Int) / 4) = ((j : Int) / 4) := by rw [IntKind.wrap_i64]; omega
      have hu4 : IntKind.u64.wrap ((j : Int) / 4) = ((j : Int) / 4) := by unfold IntKind.wrap; simp [IntKind.bits, IntKind.signed]; omega
      have HLT := Lib.hid hlt
      have HR := Lib.hid hR
      clear hR hj
      go_wp2_with fail
      refine (world_make ((j : Int) % 4) ((j : Int) / 4) 1 none [] 0 (by omega) (by omega) HR.out rfl (by have := HEW.out.c; have := HLT.out; omega) (by have := HEW.out.len; have := HLT.out; omega) (.inl rfl) (fun _ => rfl) (by decide)).mono ?_
      rintro e w7 ⟨he, h⟩
      rw [HEW.out.c] at he
      obtain rfl : e = .returned (.agg #[.int .i64 ((j : Int) % 4), .int .u64 ((j : Int) / 4), .int .u64 1, .int .i64 ((j : Int) + 1)]) := he
      rw [HEW.out.c, five0] at h
      have HEW1 : Hid (EW (X.made (eP j) []) LP (j + 1)) := HEW.out.made
      have h8 : Sys w7 (five (worldT p d (X.made (eP j) [])) (treeT pt p 1 [(1, zeroBlk)]) (logT pg p pt 1 [] []) (poolT pp p (imin (imax 9 0) 1000) LP) (ledgT pl 4)) (own 55 4 (.slice fa j fc) j (flatE (fewP j)) :: blk nc (.cells #[.int .i64 c.f, .int .i64 c.n, .int .i64 c.cl, .int .i64 c.ba, .int .i64 c.mo, .int .i64 c.bt, .int .i64 c.po, .int .i64 c.wi] 23 (0, 0)) :: [base W]) := h
      have h9 := h8.alloc (.cells #[.int .i64 ((j : Int) % 4), .int .u64 ((j : Int) / 4), .int .u64 1, .int .i64 ((j : Int) + 1)] 55 (0, 0)) rfl
      obtain ⟨v9, z9, hap, h10⟩ := (h9.front 1 rfl).appEnvs (k := 1) (some ⟨w7.heap.size, 0, none⟩) 1 [eP j] rfl (EnvsAt.one (e := eP j) h9.getBlk) (by have := HLT.out; omega) 39
      obtain ⟨fa9, k9, fc9, rfl, hk9⟩ := h10.getOwn.slice
      obtain rfl := hk9.out
      rw [← fewP_snoc] at h10
      have H9 := Lib.hid (h10.drop 1 rfl)
      obtain ⟨Y, hY⟩ : ∃ Y, Y = X.made (eP j) [] := ⟨_, rfl⟩
      rw [← hY] at HEW1 H9
      have HY := Lib.hid hY
      clear h h8 h9 h10 hk9 hY HR
      go_upto_if 91 with (at_builtin; refine wpl_append rfl _ _ _ rfl rfl rfl hap ?_)
      clear hap
      obtain ⟨tv, htv⟩ : ∃ x, bits BinOp.and IntKind.i64 (a7 / 2 ^ j) 1 = x := ⟨_, rfl⟩
      by_cases ht : tv = 1
      · subst ht
        obtain ⟨fb, fo, rfl⟩ := H9.out.getOwn.envsAt.some_ (i := j) (by rw [fewP_length]; omega)
        have hat : EnvsAt z9 (some ⟨fb, fo, none⟩) (fewP (j + 1)) := H9.out.getOwn.envsAt
        have hce := hat.get (i := j) (by rw [fewP_length]; omega)
        rw [fewP_get (by omega)] at hce
        have HCE : Hid (∀ (k : Nat) (u : Value), ([.int .i64 ((j : Int) % 4), .int .u64 ((j : Int) / 4), .int .u64 1, .int .i64 ((j : Int) + 1)] : List Value)[k]? = some u → z9.cell? ⟨fb, fo + j * 4 + k, none⟩ = some u) := hce
        have HFP := Lib.hid (feesP (L := LP) (e := eP j) rfl HEW.out.fee)
        have hjj : (j : Int) < (j : Int) + 1 := by omega
        clear hat hce
        go_wp2_with (refine wpList_load_at rfl 55 _ rfl fb (fo + j * 4) rfl [.int .i64 ((j : Int) % 4), .int .u64 ((j : Int) / 4), .int .u64 1, .int .i64 ((j : Int) + 1)] _ HCE.out Tryz.underlying55 rfl size4 ?_)
        refine (pool_add (e := eP j) (n := 4) (L := LP) (eP_wf j HLT.out) (by show 0 ≤ (j : Int) % 4 ∧ (j : Int) % 4 ≤ 999; omega) (by show (LP.length : Int) < 9; have := HEW.out.lpl; have := HLT.out; omega) (by have := HEW.out.lpl; have := HLT.out; omega) HFP.out.1 (by have := HFP.out.2; have := HEW.out.lpl; have := HLT.out; omega) (by decide) H9.out rfl rfl rfl (by have := HEW1.out.len; have := HLT.out; omega)).mono ?_
        rintro e w8 ⟨rfl, h⟩
        have HDG : Y.digest (envB (eP j)) = Y := HEW1.out.dig
        rw [HDG, five0, five3] at h
        have HEW2 : Hid (EW Y (if addCode Y LP 4 (eP j) = 0 then LP ++ [eP j] else LP) (j + 1)) := by
          have h1 := HEW1.out
          rw [HY.out] at h1 ⊢
          exact h1.put HEW.out _
        obtain ⟨LP2, hLP⟩ : ∃ L, L = (if addCode Y LP 4 (eP j) = 0 then LP ++ [eP j] else LP) := ⟨_, rfl⟩
        rw [← hLP] at h HEW2
        have H10 := Lib.hid h
        clear h HDG hLP
        go_wp2_with fail
        go_roundw
        case rel => exact ⟨j + 1, some ⟨fb, fo, none⟩, fc9, Y, LP2, by have := HLT.out; omega, by go_num, rfl, HEW2.out, H10.out⟩
        case measure => simp [intOf]; have := HLT.out; omega
      · have hb0 : (tv == 1) = false := by simpa using ht
        go_wp2_with fail
        go_roundw
        case rel => exact ⟨j + 1, fa9, fc9, Y, LP, by have := HLT.out; omega, by go_num, rfl, HEW1.out, H9.out⟩
        case measure => simp [intOf]; have := HLT.out; omega
    · obtain rfl : j = 6 := by omega
      have HR := Lib.hid hR
      clear hR hlt hj H7
      go_wp2_with fail
      refine (cert_root HR.out rfl (by have := HEW.out.len; omega)).mono ?_
      rintro e w7 ⟨he, h⟩
      rw [HEW.out.rt] at he
      subst he
      rw [digest_in HEW.out.root, five0] at h
      obtain ⟨fb, fo, rfl⟩ := HR.out.getOwn.envsAt.some_ (i := 0) (by rw [fewP_length]; omega)
      obtain ⟨nd, x7, EN7, EX7, ES7, H7⟩ := Sys.box h (.cells #[.int .i64 1] 3 (0, 0))
      obtain ⟨nb, x8, EN8, EX8, ES8, H8⟩ := Sys.box' H7 ES7 (.cells #[.int .i64 0, .int .i64 0, .int .i64 0, .int .i64 0, .slice none 0 0, .slice none 0 0] 41 (0, 0))
      have h1 := Sys.lawStart rfl H8.out
      have h2 := (h1.swap.blkOwn (k := 1) (ys := [.int .i64 1]) rfl (by unfold maxLen; omega))
      have HTW := Lib.hid (TW.start HEW.out)
      have H9 : Hid (Sys x8 (five (worldT p d X) (treeT pt p 1 [(1, zeroBlk)]) (logT pg p pt 1 [] []) (poolT pp p (imin (imax 9 0) 1000) LP) (ledgT pl 4)) (own 3 1 (.slice (some ⟨nd, 0, none⟩) 1 1) 1 [.int .i64 1] :: lawT (.slice (some ⟨nb, 0, none⟩) 1 1) [(1, zeroBlk)] :: own 55 4 (.slice (some ⟨fb, fo, none⟩) 6 fc) 6 (flatE (fewP 6)) :: blk nc (.cells #[.int .i64 c.f, .int .i64 c.n, .int .i64 c.cl, .int .i64 c.ba, .int .i64 c.mo, .int .i64 c.bt, .int .i64 c.po, .int .i64 c.wi] 23 (0, 0)) :: [base W])) := h2
      clear h h1 h2 HR H7 H8
      go_upto_region 17 with fail
      rw [EX7.out, EX8.out, EN8.out, EN7.out]
      have HLP : Hid ((∀ e ∈ LP, e ∈ fewP 6) ∧ LP.length ≤ 6 ∧ LP.Nodup) := ⟨HEW.out.lp, HEW.out.lpl, HEW.out.nd⟩
      clear EX7 EX8 EN7 EN8 ES7 ES8 EX6 EN6 ES6
      go_upto_block 2 with fail
      go_cut [25, 26, 27, 28, 29, 30, 31, 32] from 104 to 191 (fun dv bv _ _ _ _ _ _ wx => ∃ (k : Nat) (X : WX) (T : List (Int × BlkX)) (da ba : Option Addr) (dc bc : Nat), dv = .slice da T.length dc ∧ bv = .slice ba T.length bc ∧ Hid (TW X T k) ∧ Sys wx (five (worldT p d X) (treeT pt p 1 T) (logT pg p pt 1 [] []) (poolT pp p (imin (imax 9 0) 1000) LP) (ledgT pl 4)) (own 3 1 (.slice da T.length dc) T.length ((T.map (·.1)).map (Value.int .i64)) :: lawT (.slice ba T.length bc) T :: own 55 4 (.slice (some ⟨fb, fo, none⟩) 6 fc) 6 (flatE (fewP 6)) :: blk nc (.cells #[.int .i64 c.f, .int .i64 c.n, .int .i64 c.cl, .int .i64 c.ba, .int .i64 c.mo, .int .i64 c.bt, .int .i64 c.po, .int .i64 c.wi] 23 (0, 0)) :: [base W]))
      case first =>
        rename_i au175_1_ au175_2_ au175_3_ au175_4_ au175_5_ au175_6_ au175_7_ au175_8_ au175_9_ au175_10_ au175_11_ au175_12_ au175_13_ au175_14_ au175_15_ au175_16_ au175_17_
        revert W a0 au175_1_ a1 len1 cap1 z1 a2 len2 cap2 z2 a3 au175_2_ a4 au175_3_ a5 au175_4_ a6 au175_5_ a7 au175_6_ ls is HI1 HLEN1 HI2 HLEN2 au175_7_ w1 p d w2 pl w3 pt w4 pg w5 pp w6 c HG HBT nc x6 au175_8_ wr u72 u73 u74 u75 u76 u77 u78 u79 u80 u81 u82 u83 u84 u85 u86 u87 u88 u89 u90 u91 u92 u93 u94 u95 u96 u97 u98 fc X LP HEW au175_9_ w7 fb fo au175_10_ au175_11_ nd x7 nb x8 HTW H9 au175_12_ au175_13_ HLP au175_14_ au175_15_ au175_16_ au175_17_
        exact hA_.out
      case rest =>
        rename_i au766_1_ au766_2_ au766_3_ au766_4_ au766_5_ au766_6_ au766_7_ au766_8_ au766_9_ au766_10_ au766_11_ au766_12_ au766_13_
        revert W a0 au766_1_ a1 len1 cap1 z1 a2 len2 cap2 z2 a3 au766_2_ a4 au766_3_ a5 au766_4_ a6 au766_5_ a7 au766_6_ ls is HI1 HLEN1 HI2 HLEN2 au766_7_ w1 p d w2 pl w3 pt w4 pg w5 pp w6 c HG HBT nc x6 au766_8_ wr u72 u73 u74 u75 u76 u77 u78 u79 u80 u81 u82 u83 u84 u85 u86 u87 u88 u89 u90 u91 u92 u93 u94 u95 u96 u97 u98 fc X LP HEW au766_9_ w7 fb fo au766_10_ au766_11_ nd x7 nb x8 HTW H9 au766_12_ au766_13_ HLP wc u16 u25 u26 u27 u28 u29 u30 u31 u32 u104 u105 u106 u107 u108 u109 u110 u111 u112 u113 u114 u115 u116 u117 u118 u119 u120 u121 u122 u123 u124 u125 u126 u127 u128 u129 u130 u131 u132 u133 u134 u135 u136 u137 u138 u139 u140 u141 u142 u143 u144 u145 u146 u147 u148 u149 u150 u151 u152 u153 u154 u155 u156 u157 u158 u159 u160 u161 u162 u163 u164 u165 u166 u167 u168 u169 u170 u171 u172 u173 u174 u175 u176 u177 u178 u179 u180 u181 u182 u183 u184 u185 u186 u187 u188 u189 u190 u191 hcut
        exact hB_.out
 case dA =>
        refine ⟨?_⟩
        intro W a0 au175_1_ a1 len1 cap1 z1 a2 len2 cap2 z2 a3 au175_2_ a4 au175_3_ a5 au175_4_ a6 au175_5_ a7 au175_6_ ls is HI1 HLEN1 HI2 HLEN2 au175_7_ w1 p d w2 pl w3 pt w4 pg w5 pp w6 c HG HBT nc x6 au175_8_ wr u72 u73 u74 u75 u76 u77 u78 u79 u80 u81 u82 u83 u84 u85 u86 u87 u88 u89 u90 u91 u92 u93 u94 u95 u96 u97 u98 fc X LP HEW au175_9_ w7 fb fo au175_10_ au175_11_ nd x7 nb x8 HTW H9 au175_12_ au175_13_ HLP au175_14_ au175_15_ au175_16_ au175_17_
        go_wp2_with fail
        go_loopw [25, 26, 27] (fun dv bv iv wr => ∃ (i : Nat) (X : WX) (T : List (Int × BlkX)) (da ba : Option Addr) (dc bc : Nat), i ≤ len1 ∧ iv = .int .i64 (i : Int) ∧ dv = .slice da T.length dc ∧ bv = .slice ba T.length bc ∧ Hid (TW X T i) ∧ Sys wr (five (worldT p d X) (treeT pt p 1 T) (logT pg p pt 1 [] []) (poolT pp p (imin (imax 9 0) 1000) LP) (ledgT pl 4)) (own 3 1 (.slice da T.length dc) T.length ((T.map (·.1)).map (Value.int .i64)) :: lawT (.slice ba T.length bc) T :: own 55 4 (.slice (some ⟨fb, fo, none⟩) 6 fc) 6 (flatE (fewP 6)) :: blk nc (.cells #[.int .i64 c.f, .int .i64 c.n, .int .i64 c.cl, .int .i64 c.ba, .int .i64 c.mo, .int .i64 c.bt, .int .i64 c.po, .int .i64 c.wi] 23 (0, 0)) :: [base W])) (fun _ _ iv _ => len1 - (intOf iv).toNat)
        case atStart => exact ⟨0, X, [(1, zeroBlk)], some ⟨nd, 0, none⟩, some ⟨nb, 0, none⟩, 1, 1, by omega, rfl, rfl, rfl, HTW.out, H9.out⟩
        case round =>
          clear H9 HTW HEW
          obtain ⟨i, Y, T, da, ba, dc, bc, hi, rfl, rfl, rfl, HT, hR⟩ := hrel
          by_cases hgo : i < len1 ∧ i < 12
          · obtain ⟨hlt, h12⟩ := hgo
            have hil : (i : Int) < (len1 : Int) := by omega
            have hi12 : (i : Int) < 12 := by omega
            have hiw : IntKind.i64.wrap ((i : Int) + 1) = (i : Int) + 1 := by rw [IntKind.wrap_i64]; omega
            obtain ⟨yb, yo, rfl, hcj⟩ : ∃ b off, a1 = some ⟨b, off, none⟩ ∧ wr.cell? ⟨b, off + i, none⟩ = some (.int .i64 (ls.getD i 0)) := by
              rcases HI1.out.below (Sys.memBase (W := W) hR (by simp)) with h | ⟨b, off, e, h⟩
              · have := HLEN1.out; rw [h] at this; simp at this; omega
              · exact ⟨b, off, e, h i (by rw [HLEN1.out]; exact hlt)⟩
            obtain ⟨lv, hlv⟩ : ∃ x, x = ls.getD i 0 := ⟨_, rfl⟩
            rw [← hlv] at hcj
            have HLV := Lib.hid hlv
            have hT1 := HT.out.len
            obtain ⟨nT, hnT⟩ : ∃ n, n = T.length := ⟨_, rfl⟩
            rw [← hnT] at hR ⊢
            have HNT := Lib.hid hnT
            have hmo : 0 ≤ (bits BinOp.and IntKind.i64 lv 255).tmod (nT : Int) ∧ (bits BinOp.and IntKind.i64 lv 255).tmod (nT : Int) < (nT : Int) := by
              rw [i64_and255, Int.tmod_eq_emod_of_nonneg (by omega)]
              exact ⟨Int.emod_nonneg _ (by omega), Int.emod_lt_of_pos _ (by omega)⟩
            obtain ⟨on, hon⟩ : ∃ on : Nat, (bits BinOp.and IntKind.i64 lv 255).tmod (nT : Int) = (on : Int) := ⟨_, (Int.toNat_of_nonneg hmo.1).symm⟩
            rw [hon] at hmo
            have honl : (on : Int) < (nT : Int) := hmo.2
            have hon2 : on < T.length := by omega
            have hn0 : ¬ ((nT : Int) = 0) := by omega
            have hn0b : ((nT : Int) == 0) = false := by simpa using hn0
            obtain ⟨S, h1⟩ := (hR.front 1 rfl).open
            obtain ⟨bb, bo, rfl, hrow⟩ := (h1.getOwn).rowsAt (h1.tail.lawEnvs).1 (by omega)
            obtain ⟨db, do_, rfl⟩ := (h1.front 2 rfl).getOwn.intsAt.some_ (i := 0) (by rw [List.length_map]; omega)
            replace h1 : Sys wr (five (worldT p d Y) (treeT pt p 1 T) (logT pg p pt 1 [] []) (poolT pp p (imin (imax 9 0) 1000) LP) (ledgT pl 4)) (own 41 6 (.slice (some ⟨bb, bo, none⟩) nT bc) T.length (rowsF T S) :: envsT T S :: own 3 1 (.slice (some ⟨db, do_, none⟩) nT dc) nT ((T.map (·.1)).map (Value.int .i64)) :: own 55 4 (.slice (some ⟨fb, fo, none⟩) 6 fc) 6 (flatE (fewP 6)) :: blk nc (.cells #[.int .i64 c.f, .int .i64 c.n, .int .i64 c.cl, .int .i64 c.ba, .int .i64 c.mo, .int .i64 c.bt, .int .i64 c.po, .int .i64 c.wi] 23 (0, 0)) :: [base W]) := h1
            have HR1 := Lib.hid h1
            have HON := Lib.hid hon2
            obtain ⟨vv, hvv⟩ : ∃ x, (T[on]'HON.out).2.view = x := ⟨_, rfl⟩
            obtain ⟨kk, hkk⟩ : ∃ x, (T[on]'HON.out).1 = x := ⟨_, rfl⟩
            obtain ⟨sb, hsb⟩ : ∃ x, bits BinOp.and IntKind.i64 (lv / 256) 1 = x := ⟨_, rfl⟩
            obtain ⟨V, hV⟩ : ∃ x, x = vv + 1 + sb := ⟨_, rfl⟩
            have hsb2 : sb = 0 ∨ sb = 1 := by rw [i64_and1] at hsb; omega
            have hvr : 0 ≤ vv ∧ vv ≤ 2 * (i : Int) := by rw [← hvv, ← HT.out.bk_get on HON.out]; exact ⟨HT.out.inv.1 _, HT.out.vw _⟩
            have hw1 : IntKind.i64.wrap (vv + 1) = vv + 1 := by rw [IntKind.wrap_i64]; omega
            have hw2 : IntKind.i64.wrap (vv + 1 + sb) = V := by rw [IntKind.wrap_i64]; omega
            have HC21 : Hid (∀ z, Sys z (five (worldT p d Y) (treeT pt p 1 T) (logT pg p pt 1 [] []) (poolT pp p (imin (imax 9 0) 1000) LP) (ledgT pl 4)) (own 41 6 (.slice (some ⟨bb, bo, none⟩) nT bc) T.length (rowsF T S) :: envsT T S :: own 3 1 (.slice (some ⟨db, do_, none⟩) nT dc) nT ((T.map (·.1)).map (Value.int .i64)) :: own 55 4 (.slice (some ⟨fb, fo, none⟩) 6 fc) 6 (flatE (fewP 6)) :: blk nc (.cells #[.int .i64 c.f, .int .i64 c.n, .int .i64 c.cl, .int .i64 c.ba, .int .i64 c.mo, .int .i64 c.bt, .int .i64 c.po, .int .i64 c.wi] 23 (0, 0)) :: [base W]) → z.cell? ⟨bb, bo + on * 6, none⟩ = some (.int .i64 vv) ∧ z.cell? ⟨yb, yo + i, none⟩ = some (.int .i64 lv) ∧ z.cell? ⟨db, do_ + on, none⟩ = some (.int .i64 kk)) := by
              intro z hz
              have hpos : 0 < T.length := by omega
              obtain ⟨b1, o1, e1, hr⟩ := hz.getOwn.rowsAt (hz.tail.lawEnvs).1 hpos
              cases e1
              have g1 := hr on HON.out 0 _ rfl
              refine ⟨?_, ?_, ?_⟩
              · rw [← hvv]; exact g1
              · rcases HI1.out.below (Sys.memBase (W := W) hz (by simp)) with h | ⟨b, off, e, h⟩
                · have := HLEN1.out; rw [h] at this; simp at this; omega
                · cases e
                  rw [hlv]
                  exact h i (by rw [HLEN1.out]; exact hlt)
              · rcases (hz.front 2 rfl).getOwn.intsAt with h | ⟨b, off, e, h⟩
                · rw [List.map_eq_nil_iff] at h; rw [h] at hpos; simp at hpos
                · cases e
                  rw [h on (by rw [List.length_map]; exact HON.out), List.getD_eq_getElem?_getD, List.getElem?_map, List.getElem?_eq_getElem HON.out]
                  simp [hkk]
            have Z1 := Lib.hid (h1.alloc (.cells #[.int .i64 0, .int .i64 0, .int .i64 0, .int .i64 0, .slice none 0 0, .slice none 0 0] 41 (0, 0)) rfl).drew
            obtain ⟨nb2, hnb⟩ : ∃ n, n = wr.heap.size := ⟨_, rfl⟩
            obtain ⟨z1, hz1⟩ : ∃ x, x = (wr.alloc (.cells #[.int .i64 0, .int .i64 0, .int .i64 0, .int .i64 0, .slice none 0 0, .slice none 0 0] 41 (0, 0))).drew := ⟨_, rfl⟩
            rw [← hnb, ← hz1] at Z1
            have NB := Lib.hid hnb
            have HZ1 := Lib.hid hz1
            have HVV := Lib.hid hvv
            have HKK := Lib.hid hkk
            have HVD := Lib.hid hV
            have HSB := Lib.hid hsb2
            have HVR := Lib.hid hvr
            have HI := Lib.hid hlt
            have HI12 := Lib.hid h12
            clear hlv hT1 hnT hmo hrow hvv hkk hV hsb2 hvr hnb hz1 h1 hR hlt h12 hi hon2
            go_upto_region 21 with fail
            clear hcj hon hn0 hn0b
            refine wp_region_seq (fun x : World => x.cell? ⟨bb, bo + on * 6, none⟩ = some (.int .i64 vv) ∧ x.cell? ⟨yb, yo + i, none⟩ = some (.int .i64 lv) ∧ x.cell? ⟨db, do_ + on, none⟩ = some (.int .i64 kk)) anyW [26] [(0, 0, some 122), (1, 0, some 123), (2, 0, some 124), (3, 0, some 125), (4, 1, some 126), (5, 0, some 127), (6, 0, some 128), (7, 0, some 129), (8, 0, some 130), (9, 1, some 131), (10, 0, some 132), (11, 0, some 133), (12, 0, some 134), (13, 0, some 135), (14, 0, some 136), (15, 0, some 137), (16, 0, some 138), (17, 0, some 139), (18, 1, some 140), (19, 0, some 141), (20, 0, some 142), (21, 0, some 143), (22, 1, some 144), (23, 0, some 145), (24, 0, some 146), (25, 2, some 29), (26, 3, none)] (by kernel_rfl) (by kernel_rfl) (fun _ _ _ d _ h => by cases d <;> exact h) (HC21.out _ HR1.out.drew) anyW.i ?_
            repeat (first | (refine seqW (v := ?_) rfl rfl (by kernel_rfl) ?_ ?_; rotate_left; (focus ((intro x; go_simp); try (with_reducible rfl))); try simp only [Act.put, List.setIfInBounds_toArray, List.set_cons_zero, List.set_cons_succ]) | (refine seqS (v := ?_) rfl rfl (by kernel_rfl) ?_ ?_; rotate_left; (focus (intro x hS; first | (obtain ⟨hS1, hS2, hS3⟩ := hS; go_simp; try (with_reducible rfl)))); try simp only [Act.put, List.setIfInBounds_toArray, List.set_cons_zero, List.set_cons_succ]) | (refine seqX rfl rfl (by kernel_rfl) ?_; try simp only [Act.put, List.setIfInBounds_toArray, List.set_cons_zero, List.set_cons_succ]))
            refine seqL rfl rfl (fun K hK => ?_)
            go_simp
            rw [← HZ1.out, ← NB.out]
            refine hK.out _ _ anyW.i ?_ (fun _ hSt => ?_)
            · exact HC21.out _ Z1.out.tail
            clear hSt hK K
            try simp only [Act.put, List.setIfInBounds_toArray, List.set_cons_zero, List.set_cons_succ]
            refine seqT rfl rfl (fun K hK => ?_)
            have hzz := setRow_heap z1 nb2 _ (#[.int .i64 V, .int .i64 (i : Int), .int .i64 vv, .int .i64 kk, .slice none 0 0, .slice none 0 0]) _ _ Z1.out.getBlk
            have HF := Lib.hid (Z1.out.store ((Chg.refl (· = nb2) z1).row (#[.int .i64 V, .int .i64 (i : Int), .int .i64 vv, .int .i64 kk, .slice none 0 0, .slice none 0 0])) hzz)
            have hbb := Z1.out.getBlk
            refine step_store_row rfl 41 _ _ rfl nb2 (#[.int .i64 V, .int .i64 (i : Int), .int .i64 vv, .int .i64 kk, .slice none 0 0, .slice none 0 0]) rfl rfl _ _ hbb size6B rfl (by simp [Value.oneCell']) ?_
            clear hbb hzz
            refine hK.out _ _ anyW.i (fun _ => ?_)
            clear hK K
            try simp only [Act.put, List.setIfInBounds_toArray, List.set_cons_zero, List.set_cons_succ]
            refine seqE ?_
            have h5 := HF.out.push (F := fun _ => False) (t := own 55 4 (.slice none 0 0) 0 []) (Chg.refl _ _) ⟨Own.nil _ _ _, by funext k; simp [Value.ownBlock]⟩ (fun _ h => h.elim)
            have H11 : Hid (Sys _ (five (worldT p d Y) (treeT pt p 1 T) (logT pg p pt 1 [] []) (poolT pp p (imin (imax 9 0) 1000) LP) (ledgT pl 4)) (blk nb2 (.cells #[.int .i64 V, .int .i64 (i : Int), .int .i64 vv, .int .i64 kk, .slice none 0 0, .slice none 0 0] 41 (0, 0)) :: own 55 4 (.slice none 0 0) 0 [] :: (own 41 6 (.slice (some ⟨bb, bo, none⟩) nT bc) T.length (rowsF T S) :: envsT T S :: own 3 1 (.slice (some ⟨db, do_, none⟩) nT dc) nT ((T.map (·.1)).map (Value.int .i64)) :: own 55 4 (.slice (some ⟨fb, fo, none⟩) 6 fc) 6 (flatE (fewP 6)) :: blk nc (.cells #[.int .i64 c.f, .int .i64 c.n, .int .i64 c.cl, .int .i64 c.ba, .int .i64 c.mo, .int .i64 c.bt, .int .i64 c.po, .int .i64 c.wi] 23 (0, 0)) :: [base W]))) := h5.swap
            clear h5 HF HC21 Z1 HZ1 NB HR1
            go_wp2_with fail
            go_loopw [30] (fun kv wr => ∃ (k : Nat) (E : List EnvX) (va : Option Addr) (vc ne : Nat), k ≤ 6 ∧ kv = .int .i64 (k : Int) ∧ Hid ((∀ e ∈ E, e ∈ fewP 6) ∧ E.length ≤ k ∧ E.length = ne) ∧ Sys wr (five (worldT p d Y) (treeT pt p 1 T) (logT pg p pt 1 [] []) (poolT pp p (imin (imax 9 0) 1000) LP) (ledgT pl 4)) (blk nb2 (.cells #[.int .i64 V, .int .i64 (i : Int), .int .i64 vv, .int .i64 kk, .slice none 0 0, .slice va ne vc] 41 (0, 0)) :: own 55 4 (.slice va ne vc) ne (flatE E) :: (own 41 6 (.slice (some ⟨bb, bo, none⟩) nT bc) T.length (rowsF T S) :: envsT T S :: own 3 1 (.slice (some ⟨db, do_, none⟩) nT dc) nT ((T.map (·.1)).map (Value.int .i64)) :: own 55 4 (.slice (some ⟨fb, fo, none⟩) 6 fc) 6 (flatE (fewP 6)) :: blk nc (.cells #[.int .i64 c.f, .int .i64 c.n, .int .i64 c.cl, .int .i64 c.ba, .int .i64 c.mo, .int .i64 c.bt, .int .i64 c.po, .int .i64 c.wi] 23 (0, 0)) :: [base W]))) (fun kv _ => 6 - (intOf kv).toNat)
            case atStart => exact ⟨0, [], none, 0, 0, by omega, rfl, ⟨fun e he => (by cases he), Nat.le_refl _, rfl⟩, H11.out⟩
            case round =>
              obtain ⟨k, E, va, vc, ne, hk, rfl, HE, hR⟩ := hrel
              have HR := Lib.hid hR
              clear hR H11
              by_cases hk6 : k < 6
              · have hkl : (k : Int) < 6 := by omega
                by_cases hin : i < len2
                · have hinl : (i : Int) < (len2 : Int) := by omega
                  have hkw : IntKind.i64.wrap ((k : Int) + 1) = (k : Int) + 1 := by rw [IntKind.wrap_i64]; omega
                  have hw2 : IntKind.i64.wrap (2 * (k : Int)) = 2 * (k : Int) := by rw [IntKind.wrap_i64]; omega
                  obtain ⟨zb, zo, rfl, hcz⟩ : ∃ b off, a2 = some ⟨b, off, none⟩ ∧ wr.cell? ⟨b, off + i, none⟩ = some (.int .i64 (is.getD i 0)) := by
                    rcases HI2.out.below (Sys.memBase (W := W) HR.out (by simp)) with h | ⟨b, off, e, h⟩
                    · have := HLEN2.out; rw [h] at this; simp at this; omega
                    · exact ⟨b, off, e, h i (by rw [HLEN2.out]; exact hin)⟩
                  obtain ⟨uv, huv⟩ : ∃ x, x = is.getD i 0 := ⟨_, rfl⟩
                  rw [← huv] at hcz
                  have HKL := Lib.hid hk6
                  clear huv
                  obtain ⟨tv, htv⟩ : ∃ x, bits BinOp.and IntKind.i64 (uv / 2 ^ (2 * k)) 3 = x := ⟨_, rfl⟩
                  go_upto_if 166 with fail
                  clear hcz
                  by_cases ht : tv = 0
                  · subst ht
                    have HGET : Hid (∀ z, EnvsAt z (some ⟨fb, fo, none⟩) (fewP 6) → ∀ (q : Nat) (u : Value), ([.int .i64 ((k : Int) % 4), .int .u64 ((k : Int) / 4), .int .u64 1, .int .i64 ((k : Int) + 1)] : List Value)[q]? = some u → z.cell? ⟨fb, fo + k * 4 + q, none⟩ = some u) := by
                      intro z hz
                      have h := hz.get (i := k) (by rw [fewP_length]; exact HKL.out)
                      rw [fewP_get HKL.out] at h
                      exact h
                    have H12 := Lib.hid (HR.out.drew.alloc (.cells #[.int .i64 ((k : Int) % 4), .int .u64 ((k : Int) / 4), .int .u64 1, .int .i64 ((k : Int) + 1)] 55 (0, 0)) rfl)
                    obtain ⟨v9, z9, hap, h9⟩ := (H12.out.front 2 rfl).appEnvs (k := 1) (some ⟨wr.drew.heap.size, 0, none⟩) 1 [eP k] rfl (EnvsAt.one (e := eP k) H12.out.getBlk) (by have := HE.out.2.1; have := HE.out.2.2; omega) 39
                    obtain ⟨va9, k9, vc9, rfl, hk9⟩ := h9.getOwn.slice
                    obtain rfl := hk9.out
                    have H13 := Lib.hid (h9.drop 1 rfl)
                    have hk6b : (k : Int) < 6 := by have := HKL.out; omega
                    clear h9 hk9
                    go_upto_region 26 with fail
                    clear hk6b
                    refine wp_region_seq (fun x : World => x.heap[nb2]? = some (.cells #[.int .i64 V, .int .i64 (i : Int), .int .i64 vv, .int .i64 kk, .slice none 0 0, .slice va ne vc] 41 (0, 0)) ∧ ∀ (q : Nat) (u : Value), ([.int .i64 ((k : Int) % 4), .int .u64 ((k : Int) / 4), .int .u64 1, .int .i64 ((k : Int) + 1)] : List Value)[q]? = some u → x.cell? ⟨fb, fo + k * 4 + q, none⟩ = some u) anyW [9] [(0, 0, some 167), (1, 1, some 168), (2, 0, some 169), (3, 0, some 170), (4, 0, some 171), (5, 1, some 172), (6, 2, some 173), (7, 2, some 174), (8, 0, some 175), (9, 3, none)] (by kernel_rfl) (by kernel_rfl) (fun _ _ _ d _ h => by cases d <;> exact h) ⟨HR.out.drew.nth 0 rfl, HGET.out _ (HR.out.drew.front 5 rfl).getOwn.envsAt⟩ anyW.i ?_
                    repeat (first | (refine seqW (v := ?_) rfl rfl (by kernel_rfl) ?_ ?_; rotate_left; (focus ((intro x; go_simp); try (with_reducible rfl))); try simp only [Act.put, List.setIfInBounds_toArray, List.set_cons_zero, List.set_cons_succ]) | (refine seqS (v := ?_) rfl rfl (by kernel_rfl) ?_ ?_; rotate_left; (focus (intro x hS; first | (obtain ⟨hS1, hS2⟩ := hS; obtain ⟨q0, q1, q2, q3, q4, q5⟩ := cells6 hS1; have e0 := hS2 0 _ rfl; have e1 := hS2 1 _ rfl; have e2 := hS2 2 _ rfl; have e3 := hS2 3 _ rfl; simp only [Nat.add_zero] at e0; go_simp; try (with_reducible rfl)))); try simp only [Act.put, List.setIfInBounds_toArray, List.set_cons_zero, List.set_cons_succ]) | (refine seqX rfl rfl (by kernel_rfl) ?_; try simp only [Act.put, List.setIfInBounds_toArray, List.set_cons_zero, List.set_cons_succ]))
                    refine seqL rfl rfl (fun K hK => ?_)
                    go_simp
                    refine hK.out _ _ anyW.i ?_ (fun _ hSt => ?_)
                    · exact ⟨H12.out.nth 1 rfl, HGET.out _ (H12.out.front 6 rfl).getOwn.envsAt⟩
                    clear hSt hK K
                    try simp only [Act.put, List.setIfInBounds_toArray, List.set_cons_zero, List.set_cons_succ]
                    refine seqL rfl rfl (fun K hK => ?_)
                    refine step_run_append rfl (.tmp 168) (.tmp 173) 39 rfl rfl rfl hap ?_
                    have cp := cell_of_blk (H13.out.nth 1 rfl) 5
                    simp at cp
                    have fp := frozen_of_blk (H13.out.nth 1 rfl) 5
                    refine hK.out _ _ anyW.i ?_ (fun _ hSt => ?_)
                    · exact ⟨H13.out.nth 1 rfl, HGET.out _ (H13.out.front 5 rfl).getOwn.envsAt⟩
                    clear hSt hK K
                    try simp only [Act.put, List.setIfInBounds_toArray, List.set_cons_zero, List.set_cons_succ]
                    repeat (first | (refine seqW (v := ?_) rfl rfl (by kernel_rfl) ?_ ?_; rotate_left; (focus ((intro x; go_simp); try (with_reducible rfl))); try simp only [Act.put, List.setIfInBounds_toArray, List.set_cons_zero, List.set_cons_succ]) | (refine seqS (v := ?_) rfl rfl (by kernel_rfl) ?_ ?_; rotate_left; (focus (intro x hS; first | (obtain ⟨hS1, hS2⟩ := hS; obtain ⟨q0, q1, q2, q3, q4, q5⟩ := cells6 hS1; have e0 := hS2 0 _ rfl; have e1 := hS2 1 _ rfl; have e2 := hS2 2 _ rfl; have e3 := hS2 3 _ rfl; simp only [Nat.add_zero] at e0; go_simp; try (with_reducible rfl)))); try simp only [Act.put, List.setIfInBounds_toArray, List.set_cons_zero, List.set_cons_succ]) | (refine seqX rfl rfl (by kernel_rfl) ?_; try simp only [Act.put, List.setIfInBounds_toArray, List.set_cons_zero, List.set_cons_succ]))
                    refine seqT rfl rfl (fun K hK => ?_)
                    go_simp
                    refine hK.out _ _ anyW.i (fun _ => ?_)
                    clear hK K
                    try simp only [Act.put, List.setIfInBounds_toArray, List.set_cons_zero, List.set_cons_succ]
                    refine seqE ?_
                    have HF : Hid (Sys _ (five (worldT p d Y) (treeT pt p 1 T) (logT pg p pt 1 [] []) (poolT pp p (imin (imax 9 0) 1000) LP) (ledgT pl 4)) (blk nb2 (.cells #[.int .i64 V, .int .i64 (i : Int), .int .i64 vv, .int .i64 kk, .slice none 0 0, .slice va9 (ne + 1) vc9] 41 (0, 0)) :: own 55 4 (.slice va9 (ne + 1) vc9) (ne + 1) (flatE (E ++ [eP k])) :: (own 41 6 (.slice (some ⟨bb, bo, none⟩) nT bc) T.length (rowsF T S) :: envsT T S :: own 3 1 (.slice (some ⟨db, do_, none⟩) nT dc) nT ((T.map (·.1)).map (Value.int .i64)) :: own 55 4 (.slice (some ⟨fb, fo, none⟩) 6 fc) 6 (flatE (fewP 6)) :: blk nc (.cells #[.int .i64 c.f, .int .i64 c.n, .int .i64 c.cl, .int .i64 c.ba, .int .i64 c.mo, .int .i64 c.bt, .int .i64 c.po, .int .i64 c.wi] 23 (0, 0)) :: [base W]))) := H13.out.swap.setCell (i := 5) (.slice va9 (ne + 1) vc9)
                    have HE2 : Hid ((∀ e ∈ E ++ [eP k], e ∈ fewP 6) ∧ (E ++ [eP k]).length ≤ k + 1 ∧ (E ++ [eP k]).length = ne + 1) := by
                      refine ⟨fun e he => ?_, by rw [List.length_append]; have := HE.out.2.1; simp; omega, by rw [List.length_append, HE.out.2.2]; rfl⟩
                      rcases List.mem_append.1 he with he | he
                      · exact HE.out.1 e he
                      · obtain rfl : e = eP k := by simpa using he
                        exact fewP_mem.2 ⟨k, HKL.out, rfl⟩
                    clear hap
                    go_wp2_with fail
                    go_roundw
                    case rel => exact ⟨k + 1, E ++ [eP k], va9, vc9, ne + 1, by have := HKL.out; omega, by go_num, HE2.out, HF.out⟩
                    case measure => simp [intOf]; have := HKL.out; omega
                  · have hb0 : (tv == 0) = false := by simpa using ht
                    clear ht
                    go_wp2_with fail
                    go_roundw
                    case rel => exact ⟨k + 1, E, va, vc, ne, by have := HKL.out; omega, by go_num, ⟨HE.out.1, by have := HE.out.2.1; omega, HE.out.2.2⟩, HR.out⟩
                    case measure => simp [intOf]; have := HKL.out; omega
                · obtain ⟨hE1, hE2, rfl⟩ := HE.out
                  have hbeq : (⟨V, (i : Int), vv, kk, [], E⟩ : BlkX) = ⟨(T[on]'HON.out).2.view + 1 + sb, (i : Int), (T[on]'HON.out).2.view, (T[on]'HON.out).1, [], E⟩ := by rw [HVD.out, ← HVV.out, ← HKK.out]
                  have hE6 : E.length ≤ 6 := by omega
                  have HTS := Lib.hid (HT.out.tests on HON.out sb HSB.out E hE1 (⟨V, (i : Int), vv, kk, [], E⟩ : BlkX) hbeq)
                  have HTA := Lib.hid (HT.out.add HI12.out on HON.out sb HSB.out E hE1 hE6 (⟨V, (i : Int), vv, kk, [], E⟩ : BlkX) hbeq)
                  have hbe := HR.out.nth 0 rfl
                  clear hbeq hE1 hE2 hE6
                  go_wp2_with (refine wpList_load_row rfl 41 _ rfl nb2 rfl _ _ _ _ hbe Tryz.underlying41 rfl size6B ?_)
                  refine (tree_add (⟨V, (i : Int), vv, kk, [], E⟩ : BlkX) none 0 va vc (fun y m' hs => ⟨_, _, rfl, SliceIn.nil _ _, hs.tail.getOwn.sliceIn (by have := HE.out.2.1; show E.length ≤ 1000000; omega) (fun _ _ => trivial)⟩) (fun e he => fewP_wf (HE.out.1 e he)) HR.out rfl rfl (by have := HT.out.xt; have := HI12.out; omega)).mono ?_
                  intro e w9 h
                  unfold AddTo at h
                  rw [if_neg (by rw [HTS.out.1]; simp), if_neg (by rw [HTS.out.2.1]; simp), if_neg (by rw [HTS.out.2.2]; simp), five0, five1] at h
                  obtain ⟨rfl, h⟩ := h
                  obtain ⟨D, hD⟩ : ∃ x, x = blkD Y (⟨V, (i : Int), vv, kk, [], E⟩ : BlkX) := ⟨_, rfl⟩
                  obtain ⟨Y2, hY2⟩ : ∃ x, x = blkX Y (⟨V, (i : Int), vv, kk, [], E⟩ : BlkX) := ⟨_, rfl⟩
                  obtain ⟨T2, hT2⟩ : ∃ x, x = T ++ [(D, (⟨V, (i : Int), vv, kk, [], E⟩ : BlkX))] := ⟨_, rfl⟩
                  rw [← hD, ← hY2, ← hT2] at h HTA
                  rw [← hD]
                  have HTW2 := HTA
                  have HT2 := Lib.hid hT2
                  have HMAP : Hid (T.map (·.1) ++ [D] = T2.map (·.1)) := by show _ = _; rw [hT2, List.map_append]; rfl
                  have HLN : Hid (nT + 1 = T2.length) := by show _ = _; rw [hT2, List.length_append, ← HNT.out]; rfl
                  have HNT2 : Hid (nT ≤ 13) := by show _ ≤ _; have := HT.out.len; have := HNT.out; have := HI12.out; omega
                  have Z0 := Lib.hid h
                  clear h hD hY2 hT2 HTA hbe
                  go_upto_region 30 with fail
                  refine wp_region_tree (fun x : World => x.heap[nb2]? = some (.cells #[.int .i64 V, .int .i64 (i : Int), .int .i64 vv, .int .i64 kk, .slice none 0 0, .slice va E.length vc] 41 (0, 0))) anyW [] (.s 0 0 (some 184) (.s 1 0 (some 185) (.s 4 0 (some 188) (.s 5 1 (some 189) (.b 2 2 (some 186) (.b 3 2 (some 187) (.s 6 2 (some 190) (.s 7 2 (some 191) (.s 8 0 (some 25) (.s 9 0 (some 26) .e)))) 6 2 (some 190) (.s 3 2 (some 187) (.s 7 2 (some 191) (.s 8 0 (some 25) (.s 9 0 (some 26) .e))))) 6 2 (some 190) (.s 2 2 (some 186) (.s 3 2 (some 187) (.s 7 2 (some 191) (.s 8 0 (some 25) (.s 9 0 (some 26) .e)))))))))) (by kernel_rfl) (by kernel_rfl) (fun _ _ _ d _ h => by cases d <;> exact h) (Z0.out.drew.nth 0 rfl) anyW.i ?_
                  repeat (first | (refine trW (v := ?_) rfl rfl (by kernel_rfl) ?_ ?_; rotate_left; (focus ((intro x; go_simp); try (with_reducible rfl))); try simp only [Act.put, List.setIfInBounds_toArray, List.set_cons_zero, List.set_cons_succ]) | (refine trS (v := ?_) rfl rfl (by kernel_rfl) ?_ ?_; rotate_left; (focus (intro x hS; first | (refine (exec_row 41 _ (by rfl) nb2 (by rfl) _ _ _ _ hS Tryz.underlying41 rfl size6B).trans ?_; with_reducible rfl) | (go_simp; try (with_reducible rfl)))); try simp only [Act.put, List.setIfInBounds_toArray, List.set_cons_zero, List.set_cons_succ]) | (refine trX rfl rfl (by kernel_rfl) ?_; try simp only [Act.put, List.setIfInBounds_toArray, List.set_cons_zero, List.set_cons_succ]))
                  refine trB ?_ ?_
                  · have Z1 := Lib.hid (Z0.out.alloc (.cells #[.int .i64 D] 3 (0, 0)) rfl).drew
                    obtain ⟨n2, hnn⟩ : ∃ n, n = w9.heap.size := ⟨_, rfl⟩
                    obtain ⟨z1, hzz⟩ : ∃ x, x = (w9.alloc (.cells #[.int .i64 D] 3 (0, 0))).drew := ⟨_, rfl⟩
                    rw [← hnn, ← hzz] at Z1
                    have NN1 := Lib.hid hnn
                    have HZ1 := Lib.hid hzz
                    clear hnn hzz
                    refine trL rfl rfl (fun K hK => ?_)
                    go_simp
                    rw [← HZ1.out, ← NN1.out]
                    refine hK.out _ _ anyW.i ?_ (fun _ hSt => ?_)
                    · exact Z1.out.nth 1 rfl
                    clear hSt hK K
                    try simp only [Act.put, List.setIfInBounds_toArray, List.set_cons_zero, List.set_cons_succ]
                    refine trB ?_ ?_
                    · obtain ⟨vd, z2, hapd, h⟩ := (Z1.out.front 5 rfl).appInts (k := 1) (some ⟨n2, 0, none⟩) 1 [D] rfl (ints_const (t := [D]) (Z1.out.nth 0 rfl)) (by have := HNT2.out; omega) 32
                      rw [HMAP.out, HLN.out] at h
                      obtain ⟨dd, kd, cd, rfl, hkd⟩ := h.getOwn.slice
                      obtain rfl := hkd.out
                      have Z2 := Lib.hid h
                      clear h hkd
                      refine trL rfl rfl (fun K hK => ?_)
                      refine step_run_append rfl (.tmp 184) (.tmp 186) 32 rfl rfl rfl hapd ?_
                      clear hapd
                      refine hK.out _ _ anyW.i ?_ (fun _ hSt => ?_)
                      · exact Z2.out.nth 2 rfl
                      clear hSt hK K
                      try simp only [Act.put, List.setIfInBounds_toArray, List.set_cons_zero, List.set_cons_succ]
                      have Z3 := Lib.hid (Z2.out.alloc (.cells #[.int .i64 V, .int .i64 (i : Int), .int .i64 vv, .int .i64 kk, .slice none 0 0, .slice va E.length vc] 41 (0, 0)) rfl)
                      obtain ⟨n6, hnn⟩ : ∃ n, n = z2.heap.size := ⟨_, rfl⟩
                      obtain ⟨z3, hzz⟩ : ∃ x, x = z2.alloc (.cells #[.int .i64 V, .int .i64 (i : Int), .int .i64 vv, .int .i64 kk, .slice none 0 0, .slice va E.length vc] 41 (0, 0)) := ⟨_, rfl⟩
                      rw [← hnn, ← hzz] at Z3
                      have NN3 := Lib.hid hnn
                      have HZ3 := Lib.hid hzz
                      clear hnn hzz
                      refine trL rfl rfl (fun K hK => ?_)
                      go_simp
                      rw [← HZ3.out, ← NN3.out]
                      refine hK.out _ _ anyW.i ?_ (fun _ hSt => ?_)
                      · exact Z3.out.nth 3 rfl
                      clear hSt hK K
                      try simp only [Act.put, List.setIfInBounds_toArray, List.set_cons_zero, List.set_cons_succ]
                      obtain ⟨vl, z4, hapl, h⟩ := Sys.lawPush (t := (D, (⟨V, (i : Int), vv, kk, [], E⟩ : BlkX))) (E := E) rfl rfl (by have := HE.out.2.1; omega) ⟨n6, 0, none⟩ 1 rfl (((Z3.out.front 4 rfl).front 6 rfl).front 6 rfl) (fun j u hu => by rw [addr_add, Nat.zero_add, cell_of_blk (Z3.out.nth 0 rfl)]; rw [← List.getElem?_toArray] at hu; exact hu) (by have := HNT2.out; have := HNT.out; omega) 64
                      rw [← HT2.out] at h
                      obtain ⟨la, lc, rfl⟩ := h.lawShape
                      have Z4 := Lib.hid h
                      clear h
                      refine trL rfl rfl (fun K hK => ?_)
                      refine step_run_append rfl (.tmp 188) (.tmp 190) 64 rfl rfl rfl hapl ?_
                      clear hapl
                      refine hK.out _ _ anyW.i ?_ (fun _ hSt => ?_)
                      · exact Z4.out.nth 4 rfl
                      clear hSt hK K
                      try simp only [Act.put, List.setIfInBounds_toArray, List.set_cons_zero, List.set_cons_succ]
                      repeat (first | (refine trW (v := ?_) rfl rfl (by kernel_rfl) ?_ ?_; rotate_left; (focus ((intro x; go_simp); try (with_reducible rfl))); try simp only [Act.put, List.setIfInBounds_toArray, List.set_cons_zero, List.set_cons_succ]) | (refine trS (v := ?_) rfl rfl (by kernel_rfl) ?_ ?_; rotate_left; (focus (intro x hS; first | (refine (exec_row 41 _ (by rfl) nb2 (by rfl) _ _ _ _ hS Tryz.underlying41 rfl size6B).trans ?_; with_reducible rfl) | (go_simp; try (with_reducible rfl)))); try simp only [Act.put, List.setIfInBounds_toArray, List.set_cons_zero, List.set_cons_succ]) | (refine trX rfl rfl (by kernel_rfl) ?_; try simp only [Act.put, List.setIfInBounds_toArray, List.set_cons_zero, List.set_cons_succ]))
                      refine trE ?_
                      have HFIN := Lib.hid ((((Z4.out.drop 1 rfl).drop 2 rfl).drop 2 rfl).front 1 rfl)
                      go_wp2_with fail
                      go_roundw
                      case rel => exact ⟨i + 1, Y2, T2, dd, la, cd, lc, by have := HI.out; omega, by go_num, rfl, rfl, HTW2.out, HFIN.out⟩
                      case measure => simp [intOf]; have := HI.out; omega
                    · have Z2 := Lib.hid (Z1.out.alloc (.cells #[.int .i64 V, .int .i64 (i : Int), .int .i64 vv, .int .i64 kk, .slice none 0 0, .slice va E.length vc] 41 (0, 0)) rfl)
                      obtain ⟨n6, hnn⟩ : ∃ n, n = z1.heap.size := ⟨_, rfl⟩
                      obtain ⟨z2, hzz⟩ : ∃ x, x = z1.alloc (.cells #[.int .i64 V, .int .i64 (i : Int), .int .i64 vv, .int .i64 kk, .slice none 0 0, .slice va E.length vc] 41 (0, 0)) := ⟨_, rfl⟩
                      rw [← hnn, ← hzz] at Z2
                      have NN2 := Lib.hid hnn
                      have HZ2 := Lib.hid hzz
                      clear hnn hzz
                      refine trL rfl rfl (fun K hK => ?_)
                      go_simp
                      rw [← HZ2.out, ← NN2.out]
                      refine hK.out _ _ anyW.i ?_ (fun _ hSt => ?_)
                      · exact Z2.out.nth 2 rfl
                      clear hSt hK K
                      try simp only [Act.put, List.setIfInBounds_toArray, List.set_cons_zero, List.set_cons_succ]
                      obtain ⟨vd, z3, hapd, h⟩ := (Z2.out.front 6 rfl).appInts (k := 1) (some ⟨n2, 0, none⟩) 1 [D] rfl (ints_const (t := [D]) (Z2.out.nth 1 rfl)) (by have := HNT2.out; omega) 32
                      rw [HMAP.out, HLN.out] at h
                      obtain ⟨dd, kd, cd, rfl, hkd⟩ := h.getOwn.slice
                      obtain rfl := hkd.out
                      have Z3 := Lib.hid h
                      clear h hkd
                      refine trL rfl rfl (fun K hK => ?_)
                      refine step_run_append rfl (.tmp 184) (.tmp 186) 32 rfl rfl rfl hapd ?_
                      clear hapd
                      refine hK.out _ _ anyW.i ?_ (fun _ hSt => ?_)
                      · exact Z3.out.nth 3 rfl
                      clear hSt hK K
                      try simp only [Act.put, List.setIfInBounds_toArray, List.set_cons_zero, List.set_cons_succ]
                      obtain ⟨vl, z4, hapl, h⟩ := Sys.lawPush (t := (D, (⟨V, (i : Int), vv, kk, [], E⟩ : BlkX))) (E := E) rfl rfl (by have := HE.out.2.1; omega) ⟨n6, 0, none⟩ 1 rfl (((Z3.out.front 4 rfl).front 6 rfl).front 6 rfl) (fun j u hu => by rw [addr_add, Nat.zero_add, cell_of_blk (Z3.out.nth 1 rfl)]; rw [← List.getElem?_toArray] at hu; exact hu) (by have := HNT2.out; have := HNT.out; omega) 64
                      rw [← HT2.out] at h
                      obtain ⟨la, lc, rfl⟩ := h.lawShape
                      have Z4 := Lib.hid h
                      clear h
                      refine trL rfl rfl (fun K hK => ?_)
                      refine step_run_append rfl (.tmp 188) (.tmp 190) 64 rfl rfl rfl hapl ?_
                      clear hapl
                      refine hK.out _ _ anyW.i ?_ (fun _ hSt => ?_)
                      · exact Z4.out.nth 4 rfl
                      clear hSt hK K
                      try simp only [Act.put, List.setIfInBounds_toArray, List.set_cons_zero, List.set_cons_succ]
                      repeat (first | (refine trW (v := ?_) rfl rfl (by kernel_rfl) ?_ ?_; rotate_left; (focus ((intro x; go_simp); try (with_reducible rfl))); try simp only [Act.put, List.setIfInBounds_toArray, List.set_cons_zero, List.set_cons_succ]) | (refine trS (v := ?_) rfl rfl (by kernel_rfl) ?_ ?_; rotate_left; (focus (intro x hS; first | (refine (exec_row 41 _ (by rfl) nb2 (by rfl) _ _ _ _ hS Tryz.underlying41 rfl size6B).trans ?_; with_reducible rfl) | (go_simp; try (with_reducible rfl)))); try simp only [Act.put, List.setIfInBounds_toArray, List.set_cons_zero, List.set_cons_succ]) | (refine trX rfl rfl (by kernel_rfl) ?_; try simp only [Act.put, List.setIfInBounds_toArray, List.set_cons_zero, List.set_cons_succ]))
                      refine trE ?_
                      have HFIN := Lib.hid ((((Z4.out.drop 2 rfl).drop 2 rfl).drop 2 rfl).front 1 rfl)
                      go_wp2_with fail
                      go_roundw
                      case rel => exact ⟨i + 1, Y2, T2, dd, la, cd, lc, by have := HI.out; omega, by go_num, rfl, rfl, HTW2.out, HFIN.out⟩
                      case measure => simp [intOf]; have := HI.out; omega
                  · have Z1 := Lib.hid (Z0.out.alloc (.cells #[.int .i64 V, .int .i64 (i : Int), .int .i64 vv, .int .i64 kk, .slice none 0 0, .slice va E.length vc] 41 (0, 0)) rfl).drew
                    obtain ⟨n6, hnn⟩ : ∃ n, n = w9.heap.size := ⟨_, rfl⟩
                    obtain ⟨z1, hzz⟩ : ∃ x, x = (w9.alloc (.cells #[.int .i64 V, .int .i64 (i : Int), .int .i64 vv, .int .i64 kk, .slice none 0 0, .slice va E.length vc] 41 (0, 0))).drew := ⟨_, rfl⟩
                    rw [← hnn, ← hzz] at Z1
                    have NN1 := Lib.hid hnn
                    have HZ1 := Lib.hid hzz
                    clear hnn hzz
                    refine trL rfl rfl (fun K hK => ?_)
                    go_simp
                    rw [← HZ1.out, ← NN1.out]
                    refine hK.out _ _ anyW.i ?_ (fun _ hSt => ?_)
                    · exact Z1.out.nth 1 rfl
                    clear hSt hK K
                    try simp only [Act.put, List.setIfInBounds_toArray, List.set_cons_zero, List.set_cons_succ]
                    have Z2 := Lib.hid (Z1.out.alloc (.cells #[.int .i64 D] 3 (0, 0)) rfl)
                    obtain ⟨n2, hnn⟩ : ∃ n, n = z1.heap.size := ⟨_, rfl⟩
                    obtain ⟨z2, hzz⟩ : ∃ x, x = z1.alloc (.cells #[.int .i64 D] 3 (0, 0)) := ⟨_, rfl⟩
                    rw [← hnn, ← hzz] at Z2
                    have NN2 := Lib.hid hnn
                    have HZ2 := Lib.hid hzz
                    clear hnn hzz
                    refine trL rfl rfl (fun K hK => ?_)
                    go_simp
                    rw [← HZ2.out, ← NN2.out]
                    refine hK.out _ _ anyW.i ?_ (fun _ hSt => ?_)
                    · exact Z2.out.nth 2 rfl
                    clear hSt hK K
                    try simp only [Act.put, List.setIfInBounds_toArray, List.set_cons_zero, List.set_cons_succ]
                    obtain ⟨vd, z3, hapd, h⟩ := (Z2.out.front 6 rfl).appInts (k := 1) (some ⟨n2, 0, none⟩) 1 [D] rfl (ints_const (t := [D]) (Z2.out.nth 0 rfl)) (by have := HNT2.out; omega) 32
                    rw [HMAP.out, HLN.out] at h
                    obtain ⟨dd, kd, cd, rfl, hkd⟩ := h.getOwn.slice
                    obtain rfl := hkd.out
                    have Z3 := Lib.hid h
                    clear h hkd
                    refine trL rfl rfl (fun K hK => ?_)
                    refine step_run_append rfl (.tmp 184) (.tmp 186) 32 rfl rfl rfl hapd ?_
                    clear hapd
                    refine hK.out _ _ anyW.i ?_ (fun _ hSt => ?_)
                    · exact Z3.out.nth 3 rfl
                    clear hSt hK K
                    try simp only [Act.put, List.setIfInBounds_toArray, List.set_cons_zero, List.set_cons_succ]
                    obtain ⟨vl, z4, hapl, h⟩ := Sys.lawPush (t := (D, (⟨V, (i : Int), vv, kk, [], E⟩ : BlkX))) (E := E) rfl rfl (by have := HE.out.2.1; omega) ⟨n6, 0, none⟩ 1 rfl (((Z3.out.front 4 rfl).front 6 rfl).front 6 rfl) (fun j u hu => by rw [addr_add, Nat.zero_add, cell_of_blk (Z3.out.nth 2 rfl)]; rw [← List.getElem?_toArray] at hu; exact hu) (by have := HNT2.out; have := HNT.out; omega) 64
                    rw [← HT2.out] at h
                    obtain ⟨la, lc, rfl⟩ := h.lawShape
                    have Z4 := Lib.hid h
                    clear h
                    refine trL rfl rfl (fun K hK => ?_)
                    refine step_run_append rfl (.tmp 188) (.tmp 190) 64 rfl rfl rfl hapl ?_
                    clear hapl
                    refine hK.out _ _ anyW.i ?_ (fun _ hSt => ?_)
                    · exact Z4.out.nth 4 rfl
                    clear hSt hK K
                    try simp only [Act.put, List.setIfInBounds_toArray, List.set_cons_zero, List.set_cons_succ]
                    repeat (first | (refine trW (v := ?_) rfl rfl (by kernel_rfl) ?_ ?_; rotate_left; (focus ((intro x; go_simp); try (with_reducible rfl))); try simp only [Act.put, List.setIfInBounds_toArray, List.set_cons_zero, List.set_cons_succ]) | (refine trS (v := ?_) rfl rfl (by kernel_rfl) ?_ ?_; rotate_left; (focus (intro x hS; first | (refine (exec_row 41 _ (by rfl) nb2 (by rfl) _ _ _ _ hS Tryz.underlying41 rfl size6B).trans ?_; with_reducible rfl) | (go_simp; try (with_reducible rfl)))); try simp only [Act.put, List.setIfInBounds_toArray, List.set_cons_zero, List.set_cons_succ]) | (refine trX rfl rfl (by kernel_rfl) ?_; try simp only [Act.put, List.setIfInBounds_toArray, List.set_cons_zero, List.set_cons_succ]))
                    refine trE ?_
                    have HFIN := Lib.hid ((((Z4.out.drop 2 rfl).drop 2 rfl).drop 2 rfl).front 1 rfl)
                    go_wp2_with fail
                    go_roundw
                    case rel => exact ⟨i + 1, Y2, T2, dd, la, cd, lc, by have := HI.out; omega, by go_num, rfl, rfl, HTW2.out, HFIN.out⟩
                    case measure => simp [intOf]; have := HI.out; omega
              · obtain rfl : k = 6 := by omega
                obtain ⟨hE1, hE2, rfl⟩ := HE.out
                have hbeq : (⟨V, (i : Int), vv, kk, [], E⟩ : BlkX) = ⟨(T[on]'HON.out).2.view + 1 + sb, (i : Int), (T[on]'HON.out).2.view, (T[on]'HON.out).1, [], E⟩ := by rw [HVD.out, ← HVV.out, ← HKK.out]
                have hE6 : E.length ≤ 6 := by omega
                have HTS := Lib.hid (HT.out.tests on HON.out sb HSB.out E hE1 (⟨V, (i : Int), vv, kk, [], E⟩ : BlkX) hbeq)
                have HTA := Lib.hid (HT.out.add HI12.out on HON.out sb HSB.out E hE1 hE6 (⟨V, (i : Int), vv, kk, [], E⟩ : BlkX) hbeq)
                have hbe := HR.out.nth 0 rfl
                clear hbeq hE1 hE2 hE6
                go_wp2_with (refine wpList_load_row rfl 41 _ rfl nb2 rfl _ _ _ _ hbe Tryz.underlying41 rfl size6B ?_)
                refine (tree_add (⟨V, (i : Int), vv, kk, [], E⟩ : BlkX) none 0 va vc (fun y m' hs => ⟨_, _, rfl, SliceIn.nil _ _, hs.tail.getOwn.sliceIn (by have := HE.out.2.1; show E.length ≤ 1000000; omega) (fun _ _ => trivial)⟩) (fun e he => fewP_wf (HE.out.1 e he)) HR.out rfl rfl (by have := HT.out.xt; have := HI12.out; omega)).mono ?_
                intro e w9 h
                unfold AddTo at h
                rw [if_neg (by rw [HTS.out.1]; simp), if_neg (by rw [HTS.out.2.1]; simp), if_neg (by rw [HTS.out.2.2]; simp), five0, five1] at h
                obtain ⟨rfl, h⟩ := h
                obtain ⟨D, hD⟩ : ∃ x, x = blkD Y (⟨V, (i : Int), vv, kk, [], E⟩ : BlkX) := ⟨_, rfl⟩
                obtain ⟨Y2, hY2⟩ : ∃ x, x = blkX Y (⟨V, (i : Int), vv, kk, [], E⟩ : BlkX) := ⟨_, rfl⟩
                obtain ⟨T2, hT2⟩ : ∃ x, x = T ++ [(D, (⟨V, (i : Int), vv, kk, [], E⟩ : BlkX))] := ⟨_, rfl⟩
                rw [← hD, ← hY2, ← hT2] at h HTA
                rw [← hD]
                have HTW2 := HTA
                have HT2 := Lib.hid hT2
                have HMAP : Hid (T.map (·.1) ++ [D] = T2.map (·.1)) := by show _ = _; rw [hT2, List.map_append]; rfl
                have HLN : Hid (nT + 1 = T2.length) := by show _ = _; rw [hT2, List.length_append, ← HNT.out]; rfl
                have HNT2 : Hid (nT ≤ 13) := by show _ ≤ _; have := HT.out.len; have := HNT.out; have := HI12.out; omega
                have Z0 := Lib.hid h
                clear h hD hY2 hT2 HTA hbe
                go_upto_region 30 with fail
                refine wp_region_tree (fun x : World => x.heap[nb2]? = some (.cells #[.int .i64 V, .int .i64 (i : Int), .int .i64 vv, .int .i64 kk, .slice none 0 0, .slice va E.length vc] 41 (0, 0))) anyW [] (.s 0 0 (some 184) (.s 1 0 (some 185) (.s 4 0 (some 188) (.s 5 1 (some 189) (.b 2 2 (some 186) (.b 3 2 (some 187) (.s 6 2 (some 190) (.s 7 2 (some 191) (.s 8 0 (some 25) (.s 9 0 (some 26) .e)))) 6 2 (some 190) (.s 3 2 (some 187) (.s 7 2 (some 191) (.s 8 0 (some 25) (.s 9 0 (some 26) .e))))) 6 2 (some 190) (.s 2 2 (some 186) (.s 3 2 (some 187) (.s 7 2 (some 191) (.s 8 0 (some 25) (.s 9 0 (some 26) .e)))))))))) (by kernel_rfl) (by kernel_rfl) (fun _ _ _ d _ h => by cases d <;> exact h) (Z0.out.drew.nth 0 rfl) anyW.i ?_
                repeat (first | (refine trW (v := ?_) rfl rfl (by kernel_rfl) ?_ ?_; rotate_left; (focus ((intro x; go_simp); try (with_reducible rfl))); try simp only [Act.put, List.setIfInBounds_toArray, List.set_cons_zero, List.set_cons_succ]) | (refine trS (v := ?_) rfl rfl (by kernel_rfl) ?_ ?_; rotate_left; (focus (intro x hS; first | (refine (exec_row 41 _ (by rfl) nb2 (by rfl) _ _ _ _ hS Tryz.underlying41 rfl size6B).trans ?_; with_reducible rfl) | (go_simp; try (with_reducible rfl)))); try simp only [Act.put, List.setIfInBounds_toArray, List.set_cons_zero, List.set_cons_succ]) | (refine trX rfl rfl (by kernel_rfl) ?_; try simp only [Act.put, List.setIfInBounds_toArray, List.set_cons_zero, List.set_cons_succ]))
                refine trB ?_ ?_
                · have Z1 := Lib.hid (Z0.out.alloc (.cells #[.int .i64 D] 3 (0, 0)) rfl).drew
                  obtain ⟨n2, hnn⟩ : ∃ n, n = w9.heap.size := ⟨_, rfl⟩
                  obtain ⟨z1, hzz⟩ : ∃ x, x = (w9.alloc (.cells #[.int .i64 D] 3 (0, 0))).drew := ⟨_, rfl⟩
                  rw [← hnn, ← hzz] at Z1
                  have NN1 := Lib.hid hnn
                  have HZ1 := Lib.hid hzz
                  clear hnn hzz
                  refine trL rfl rfl (fun K hK => ?_)
                  go_simp
                  rw [← HZ1.out, ← NN1.out]
                  refine hK.out _ _ anyW.i ?_ (fun _ hSt => ?_)
                  · exact Z1.out.nth 1 rfl
                  clear hSt hK K
                  try simp only [Act.put, List.setIfInBounds_toArray, List.set_cons_zero, List.set_cons_succ]
                  refine trB ?_ ?_
                  · obtain ⟨vd, z2, hapd, h⟩ := (Z1.out.front 5 rfl).appInts (k := 1) (some ⟨n2, 0, none⟩) 1 [D] rfl (ints_const (t := [D]) (Z1.out.nth 0 rfl)) (by have := HNT2.out; omega) 32
                    rw [HMAP.out, HLN.out] at h
                    obtain ⟨dd, kd, cd, rfl, hkd⟩ := h.getOwn.slice
                    obtain rfl := hkd.out
                    have Z2 := Lib.hid h
                    clear h hkd
                    refine trL rfl rfl (fun K hK => ?_)
                    refine step_run_append rfl (.tmp 184) (.tmp 186) 32 rfl rfl rfl hapd ?_
                    clear hapd
                    refine hK.out _ _ anyW.i ?_ (fun _ hSt => ?_)
                    · exact Z2.out.nth 2 rfl
                    clear hSt hK K
                    try simp only [Act.put, List.setIfInBounds_toArray, List.set_cons_zero, List.set_cons_succ]
                    have Z3 := Lib.hid (Z2.out.alloc (.cells #[.int .i64 V, .int .i64 (i : Int), .int .i64 vv, .int .i64 kk, .slice none 0 0, .slice va E.length vc] 41 (0, 0)) rfl)
                    obtain ⟨n6, hnn⟩ : ∃ n, n = z2.heap.size := ⟨_, rfl⟩
                    obtain ⟨z3, hzz⟩ : ∃ x, x = z2.alloc (.cells #[.int .i64 V, .int .i64 (i : Int), .int .i64 vv, .int .i64 kk, .slice none 0 0, .slice va E.length vc] 41 (0, 0)) := ⟨_, rfl⟩
                    rw [← hnn, ← hzz] at Z3
                    have NN3 := Lib.hid hnn
                    have HZ3 := Lib.hid hzz
                    clear hnn hzz
                    refine trL rfl rfl (fun K hK => ?_)
                    go_simp
                    rw [← HZ3.out, ← NN3.out]
                    refine hK.out _ _ anyW.i ?_ (fun _ hSt => ?_)
                    · exact Z3.out.nth 3 rfl
                    clear hSt hK K
                    try simp only [Act.put, List.setIfInBounds_toArray, List.set_cons_zero, List.set_cons_succ]
                    obtain ⟨vl, z4, hapl, h⟩ := Sys.lawPush (t := (D, (⟨V, (i : Int), vv, kk, [], E⟩ : BlkX))) (E := E) rfl rfl (by have := HE.out.2.1; omega) ⟨n6, 0, none⟩ 1 rfl (((Z3.out.front 4 rfl).front 6 rfl).front 6 rfl) (fun j u hu => by rw [addr_add, Nat.zero_add, cell_of_blk (Z3.out.nth 0 rfl)]; rw [← List.getElem?_toArray] at hu; exact hu) (by have := HNT2.out; have := HNT.out; omega) 64
                    rw [← HT2.out] at h
                    obtain ⟨la, lc, rfl⟩ := h.lawShape
                    have Z4 := Lib.hid h
                    clear h
                    refine trL rfl rfl (fun K hK => ?_)
                    refine step_run_append rfl (.tmp 188) (.tmp 190) 64 rfl rfl rfl hapl ?_
                    clear hapl
                    refine hK.out _ _ anyW.i ?_ (fun _ hSt => ?_)
                    · exact Z4.out.nth 4 rfl
                    clear hSt hK K
                    try simp only [Act.put, List.setIfInBounds_toArray, List.set_cons_zero, List.set_cons_succ]
                    repeat (first | (refine trW (v := ?_) rfl rfl (by kernel_rfl) ?_ ?_; rotate_left; (focus ((intro x; go_simp); try (with_reducible rfl))); try simp only [Act.put, List.setIfInBounds_toArray, List.set_cons_zero, List.set_cons_succ]) | (refine trS (v := ?_) rfl rfl (by kernel_rfl) ?_ ?_; rotate_left; (focus (intro x hS; first | (refine (exec_row 41 _ (by rfl) nb2 (by rfl) _ _ _ _ hS Tryz.underlying41 rfl size6B).trans ?_; with_reducible rfl) | (go_simp; try (with_reducible rfl)))); try simp only [Act.put, List.setIfInBounds_toArray, List.set_cons_zero, List.set_cons_succ]) | (refine trX rfl rfl (by kernel_rfl) ?_; try simp only [Act.put, List.setIfInBounds_toArray, List.set_cons_zero, List.set_cons_succ]))
                    refine trE ?_
                    have HFIN := Lib.hid ((((Z4.out.drop 1 rfl).drop 2 rfl).drop 2 rfl).front 1 rfl)
                    go_wp2_with fail
                    go_roundw
                    case rel => exact ⟨i + 1, Y2, T2, dd, la, cd, lc, by have := HI.out; omega, by go_num, rfl, rfl, HTW2.out, HFIN.out⟩
                    case measure => simp [intOf]; have := HI.out; omega
                  · have Z2 := Lib.hid (Z1.out.alloc (.cells #[.int .i64 V, .int .i64 (i : Int), .int .i64 vv, .int .i64 kk, .slice none 0 0, .slice va E.length vc] 41 (0, 0)) rfl)
                    obtain ⟨n6, hnn⟩ : ∃ n, n = z1.heap.size := ⟨_, rfl⟩
                    obtain ⟨z2, hzz⟩ : ∃ x, x = z1.alloc (.cells #[.int .i64 V, .int .i64 (i : Int), .int .i64 vv, .int .i64 kk, .slice none 0 0, .slice va E.length vc] 41 (0, 0)) := ⟨_, rfl⟩
                    rw [← hnn, ← hzz] at Z2
                    have NN2 := Lib.hid hnn
                    have HZ2 := Lib.hid hzz
                    clear hnn hzz
                    refine trL rfl rfl (fun K hK => ?_)
                    go_simp
                    rw [← HZ2.out, ← NN2.out]
                    refine hK.out _ _ anyW.i ?_ (fun _ hSt => ?_)
                    · exact Z2.out.nth 2 rfl
                    clear hSt hK K
                    try simp only [Act.put, List.setIfInBounds_toArray, List.set_cons_zero, List.set_cons_succ]
                    obtain ⟨vd, z3, hapd, h⟩ := (Z2.out.front 6 rfl).appInts (k := 1) (some ⟨n2, 0, none⟩) 1 [D] rfl (ints_const (t := [D]) (Z2.out.nth 1 rfl)) (by have := HNT2.out; omega) 32
                    rw [HMAP.out, HLN.out] at h
                    obtain ⟨dd, kd, cd, rfl, hkd⟩ := h.getOwn.slice
                    obtain rfl := hkd.out
                    have Z3 := Lib.hid h
                    clear h hkd
                    refine trL rfl rfl (fun K hK => ?_)
                    refine step_run_append rfl (.tmp 184) (.tmp 186) 32 rfl rfl rfl hapd ?_
                    clear hapd
                    refine hK.out _ _ anyW.i ?_ (fun _ hSt => ?_)
                    · exact Z3.out.nth 3 rfl
                    clear hSt hK K
                    try simp only [Act.put, List.setIfInBounds_toArray, List.set_cons_zero, List.set_cons_succ]
                    obtain ⟨vl, z4, hapl, h⟩ := Sys.lawPush (t := (D, (⟨V, (i : Int), vv, kk, [], E⟩ : BlkX))) (E := E) rfl rfl (by have := HE.out.2.1; omega) ⟨n6, 0, none⟩ 1 rfl (((Z3.out.front 4 rfl).front 6 rfl).front 6 rfl) (fun j u hu => by rw [addr_add, Nat.zero_add, cell_of_blk (Z3.out.nth 1 rfl)]; rw [← List.getElem?_toArray] at hu; exact hu) (by have := HNT2.out; have := HNT.out; omega) 64
                    rw [← HT2.out] at h
                    obtain ⟨la, lc, rfl⟩ := h.lawShape
                    have Z4 := Lib.hid h
                    clear h
                    refine trL rfl rfl (fun K hK => ?_)
                    refine step_run_append rfl (.tmp 188) (.tmp 190) 64 rfl rfl rfl hapl ?_
                    clear hapl
                    refine hK.out _ _ anyW.i ?_ (fun _ hSt => ?_)
                    · exact Z4.out.nth 4 rfl
                    clear hSt hK K
                    try simp only [Act.put, List.setIfInBounds_toArray, List.set_cons_zero, List.set_cons_succ]
                    repeat (first | (refine trW (v := ?_) rfl rfl (by kernel_rfl) ?_ ?_; rotate_left; (focus ((intro x; go_simp); try (with_reducible rfl))); try simp only [Act.put, List.setIfInBounds_toArray, List.set_cons_zero, List.set_cons_succ]) | (refine trS (v := ?_) rfl rfl (by kernel_rfl) ?_ ?_; rotate_left; (focus (intro x hS; first | (refine (exec_row 41 _ (by rfl) nb2 (by rfl) _ _ _ _ hS Tryz.underlying41 rfl size6B).trans ?_; with_reducible rfl) | (go_simp; try (with_reducible rfl)))); try simp only [Act.put, List.setIfInBounds_toArray, List.set_cons_zero, List.set_cons_succ]) | (refine trX rfl rfl (by kernel_rfl) ?_; try simp only [Act.put, List.setIfInBounds_toArray, List.set_cons_zero, List.set_cons_succ]))
                    refine trE ?_
                    have HFIN := Lib.hid ((((Z4.out.drop 2 rfl).drop 2 rfl).drop 2 rfl).front 1 rfl)
                    go_wp2_with fail
                    go_roundw
                    case rel => exact ⟨i + 1, Y2, T2, dd, la, cd, lc, by have := HI.out; omega, by go_num, rfl, rfl, HTW2.out, HFIN.out⟩
                    case measure => simp [intOf]; have := HI.out; omega
                · have Z1 := Lib.hid (Z0.out.alloc (.cells #[.int .i64 V, .int .i64 (i : Int), .int .i64 vv, .int .i64 kk, .slice none 0 0, .slice va E.length vc] 41 (0, 0)) rfl).drew
                  obtain ⟨n6, hnn⟩ : ∃ n, n = w9.heap.size := ⟨_, rfl⟩
                  obtain ⟨z1, hzz⟩ : ∃ x, x = (w9.alloc (.cells #[.int .i64 V, .int .i64 (i : Int), .int .i64 vv, .int .i64 kk, .slice none 0 0, .slice va E.length vc] 41 (0, 0))).drew := ⟨_, rfl⟩
                  rw [← hnn, ← hzz] at Z1
                  have NN1 := Lib.hid hnn
                  have HZ1 := Lib.hid hzz
                  clear hnn hzz
                  refine trL rfl rfl (fun K hK => ?_)
                  go_simp
                  rw [← HZ1.out, ← NN1.out]
                  refine hK.out _ _ anyW.i ?_ (fun _ hSt => ?_)
                  · exact Z1.out.nth 1 rfl
                  clear hSt hK K
                  try simp only [Act.put, List.setIfInBounds_toArray, List.set_cons_zero, List.set_cons_succ]
                  have Z2 := Lib.hid (Z1.out.alloc (.cells #[.int .i64 D] 3 (0, 0)) rfl)
                  obtain ⟨n2, hnn⟩ : ∃ n, n = z1.heap.size := ⟨_, rfl⟩
                  obtain ⟨z2, hzz⟩ : ∃ x, x = z1.alloc (.cells #[.int .i64 D] 3 (0, 0)) := ⟨_, rfl⟩
                  rw [← hnn, ← hzz] at Z2
                  have NN2 := Lib.hid hnn
                  have HZ2 := Lib.hid hzz
                  clear hnn hzz
                  refine trL rfl rfl (fun K hK => ?_)
                  go_simp
                  rw [← HZ2.out, ← NN2.out]
                  refine hK.out _ _ anyW.i ?_ (fun _ hSt => ?_)
                  · exact Z2.out.nth 2 rfl
                  clear hSt hK K
                  try simp only [Act.put, List.setIfInBounds_toArray, List.set_cons_zero, List.set_cons_succ]
                  obtain ⟨vd, z3, hapd, h⟩ := (Z2.out.front 6 rfl).appInts (k := 1) (some ⟨n2, 0, none⟩) 1 [D] rfl (ints_const (t := [D]) (Z2.out.nth 0 rfl)) (by have := HNT2.out; omega) 32
                  rw [HMAP.out, HLN.out] at h
                  obtain ⟨dd, kd, cd, rfl, hkd⟩ := h.getOwn.slice
                  obtain rfl := hkd.out
                  have Z3 := Lib.hid h
                  clear h hkd
                  refine trL rfl rfl (fun K hK => ?_)
                  refine step_run_append rfl (.tmp 184) (.tmp 186) 32 rfl rfl rfl hapd ?_
                  clear hapd
                  refine hK.out _ _ anyW.i ?_ (fun _ hSt => ?_)
                  · exact Z3.out.nth 3 rfl
                  clear hSt hK K
                  try simp only [Act.put, List.setIfInBounds_toArray, List.set_cons_zero, List.set_cons_succ]
                  obtain ⟨vl, z4, hapl, h⟩ := Sys.lawPush (t := (D, (⟨V, (i : Int), vv, kk, [], E⟩ : BlkX))) (E := E) rfl rfl (by have := HE.out.2.1; omega) ⟨n6, 0, none⟩ 1 rfl (((Z3.out.front 4 rfl).front 6 rfl).front 6 rfl) (fun j u hu => by rw [addr_add, Nat.zero_add, cell_of_blk (Z3.out.nth 2 rfl)]; rw [← List.getElem?_toArray] at hu; exact hu) (by have := HNT2.out; have := HNT.out; omega) 64
                  rw [← HT2.out] at h
                  obtain ⟨la, lc, rfl⟩ := h.lawShape
                  have Z4 := Lib.hid h
                  clear h
                  refine trL rfl rfl (fun K hK => ?_)
                  refine step_run_append rfl (.tmp 188) (.tmp 190) 64 rfl rfl rfl hapl ?_
                  clear hapl
                  refine hK.out _ _ anyW.i ?_ (fun _ hSt => ?_)
                  · exact Z4.out.nth 4 rfl
                  clear hSt hK K
                  try simp only [Act.put, List.setIfInBounds_toArray, List.set_cons_zero, List.set_cons_succ]
                  repeat (first | (refine trW (v := ?_) rfl rfl (by kernel_rfl) ?_ ?_; rotate_left; (focus ((intro x; go_simp); try (with_reducible rfl))); try simp only [Act.put, List.setIfInBounds_toArray, List.set_cons_zero, List.set_cons_succ]) | (refine trS (v := ?_) rfl rfl (by kernel_rfl) ?_ ?_; rotate_left; (focus (intro x hS; first | (refine (exec_row 41 _ (by rfl) nb2 (by rfl) _ _ _ _ hS Tryz.underlying41 rfl size6B).trans ?_; with_reducible rfl) | (go_simp; try (with_reducible rfl)))); try simp only [Act.put, List.setIfInBounds_toArray, List.set_cons_zero, List.set_cons_succ]) | (refine trX rfl rfl (by kernel_rfl) ?_; try simp only [Act.put, List.setIfInBounds_toArray, List.set_cons_zero, List.set_cons_succ]))
                  refine trE ?_
                  have HFIN := Lib.hid ((((Z4.out.drop 2 rfl).drop 2 rfl).drop 2 rfl).front 1 rfl)
                  go_wp2_with fail
                  go_roundw
                  case rel => exact ⟨i + 1, Y2, T2, dd, la, cd, lc, by have := HI.out; omega, by go_num, rfl, rfl, HTW2.out, HFIN.out⟩
                  case measure => simp [intOf]; have := HI.out; omega
          · have h12 := HT.out.k12
            have HR := Lib.hid hR
            by_cases hlt : i < len1
            · obtain rfl : i = 12 := by omega
              have hil : ((12 : Nat) : Int) < (len1 : Int) := by omega
              clear hR hgo hi h12
              go_wp2_with fail
              go_meet
              case rel => exact ⟨12, Y, T, da, ba, dc, bc, rfl, rfl, HT.out, HR.out⟩
            · obtain rfl : len1 = i := by omega
              clear hR hgo hi h12 hlt
              go_wp2_with fail
              go_meet
              case rel => exact ⟨len1, Y, T, da, ba, dc, bc, rfl, rfl, HT.out, HR.out⟩
 case dB =>
  apply andThen2
  case p =>
        intro hAB_ hBB_
        intro W a0 au766_1_ a1 len1 cap1 z1 a2 len2 cap2 z2 a3 au766_2_ a4 au766_3_ a5 au766_4_ a6 au766_5_ a7 au766_6_ ls is HI1 HLEN1 HI2 HLEN2 au766_7_ w1 p d w2 pl w3 pt w4 pg w5 pp w6 c HG HBT nc x6 au766_8_ wr u72 u73 u74 u75 u76 u77 u78 u79 u80 u81 u82 u83 u84 u85 u86 u87 u88 u89 u90 u91 u92 u93 u94 u95 u96 u97 u98 fc X LP HEW au766_9_ w7 fb fo au766_10_ au766_11_ nd x7 nb x8 HTW H9 au766_12_ au766_13_ HLP wc u16 u25 u26 u27 u28 u29 u30 u31 u32 u104 u105 u106 u107 u108 u109 u110 u111 u112 u113 u114 u115 u116 u117 u118 u119 u120 u121 u122 u123 u124 u125 u126 u127 u128 u129 u130 u131 u132 u133 u134 u135 u136 u137 u138 u139 u140 u141 u142 u143 u144 u145 u146 u147 u148 u149 u150 u151 u152 u153 u154 u155 u156 u157 u158 u159 u160 u161 u162 u163 u164 u165 u166 u167 u168 u169 u170 u171 u172 u173 u174 u175 u176 u177 u178 u179 u180 u181 u182 u183 u184 u185 u186 u187 u188 u189 u190 u191 hcut
        obtain ⟨k0, Y, T, da, ba, dc, bc, rfl, rfl, HT, h⟩ := hcut
        have hpos : 0 < T.length := by rw [HT.out.len]; omega
        obtain ⟨S, h1⟩ := (h.front 1 rfl).open
        obtain ⟨bb, bo, rfl, hrow⟩ := (h1.getOwn).rowsAt (h1.tail.lawEnvs).1 hpos
        obtain ⟨db, do_, rfl⟩ := (h1.front 2 rfl).getOwn.intsAt.some_ (i := 0) (by rw [List.length_map]; exact hpos)
        replace h1 : Sys wc (five (worldT p d Y) (treeT pt p 1 T) (logT pg p pt 1 [] []) (poolT pp p (imin (imax 9 0) 1000) LP) (ledgT pl 4)) (own 41 6 (.slice (some ⟨bb, bo, none⟩) T.length bc) T.length (rowsF T S) :: envsT T S :: own 3 1 (.slice (some ⟨db, do_, none⟩) T.length dc) T.length ((T.map (·.1)).map (Value.int .i64)) :: own 55 4 (.slice (some ⟨fb, fo, none⟩) 6 fc) 6 (flatE (fewP 6)) :: blk nc (.cells #[.int .i64 c.f, .int .i64 c.n, .int .i64 c.cl, .int .i64 c.ba, .int .i64 c.mo, .int .i64 c.bt, .int .i64 c.po, .int .i64 c.wi] 23 (0, 0)) :: [base W]) := h1
        have HKEY : Hid (∀ z, IntsAt z (some ⟨db, do_, none⟩) (T.map (·.1)) → ∀ (i : Nat) (hi : i < T.length), z.cell? ⟨db, do_ + i, none⟩ = some (.int .i64 (T[i]'hi).1)) := by
          intro z hz i hi
          rcases hz with h | ⟨b, off, e, h⟩
          · rw [List.map_eq_nil_iff] at h; rw [h] at hi; simp at hi
          · cases e
            rw [h i (by rw [List.length_map]; exact hi), List.getD_eq_getElem?_getD, List.getElem?_map, List.getElem?_eq_getElem hi]
            simp
        have hmod : ∀ a : Int, ∃ t : Nat, t < T.length ∧ (bits BinOp.and IntKind.i64 a 255).tmod (T.length : Int) = (t : Int) := by
          intro a
          have h2 : 0 ≤ (bits BinOp.and IntKind.i64 a 255).tmod (T.length : Int) ∧ (bits BinOp.and IntKind.i64 a 255).tmod (T.length : Int) < (T.length : Int) := by
            rw [i64_and255, Int.tmod_eq_emod_of_nonneg (by omega)]
            exact ⟨Int.emod_nonneg _ (by omega), Int.emod_lt_of_pos _ (by omega)⟩
          exact ⟨((bits BinOp.and IntKind.i64 a 255).tmod (T.length : Int)).toNat, by omega, (Int.toNat_of_nonneg h2.1).symm⟩
        obtain ⟨tp, htp, htm⟩ := hmod a3
        obtain ⟨kx, hkx, hkm⟩ := hmod a6
        have hn0 : ¬ ((T.length : Int) = 0) := by omega
        have htl : (tp : Int) < (T.length : Int) := by omega
        have hkl : (kx : Int) < (T.length : Int) := by omega
        have hct := HKEY.out wc (h1.front 2 rfl).getOwn.intsAt tp htp
        have HTP := Lib.hid htp
        have HKX := Lib.hid hkx
        have HPOS := Lib.hid hpos
        have HCM := law_commit HT.out tp HTP.out rfl rfl rfl h1
        obtain ⟨kt, hkt⟩ : ∃ x, (T[tp]'HTP.out).1 = x := ⟨_, rfl⟩
        rw [hkt] at hct HCM
        have HCMM := Lib.hid HCM
        clear HCM hkt htp hkx hpos hmod hrow h h1
        go_wp2_with fail
        refine HCMM.out.mono ?_
        rintro e w11 ⟨bz, tip, L1, I1, rfl, h⟩
        rw [five2] at h
        have H11 : Hid (Sys w11 (five (worldT p d Y) (treeT pt p 1 T) (logT pg p pt tip L1 I1) (poolT pp p (imin (imax 9 0) 1000) LP) (ledgT pl 4)) (own 3 1 (.slice none 0 0) 0 [] :: (own 41 6 (.slice (some ⟨bb, bo, none⟩) T.length bc) T.length (rowsF T S) :: envsT T S :: own 3 1 (.slice (some ⟨db, do_, none⟩) T.length dc) T.length ((T.map (·.1)).map (Value.int .i64)) :: own 55 4 (.slice (some ⟨fb, fo, none⟩) 6 fc) 6 (flatE (fewP 6)) :: blk nc (.cells #[.int .i64 c.f, .int .i64 c.n, .int .i64 c.cl, .int .i64 c.ba, .int .i64 c.mo, .int .i64 c.bt, .int .i64 c.po, .int .i64 c.wi] 23 (0, 0)) :: [base W]))) := h.push (F := fun _ => False) (t := own 3 1 (.slice none 0 0) 0 []) (Chg.refl _ _) ⟨Own.nil _ _ _, by funext k; simp [Value.ownBlock]⟩ (fun _ h => h.elim)
        clear h hct HCMM
        go_wp2_with fail
        refine (law_way HT.out kx HKX.out (some ⟨db, do_, none⟩) (some ⟨bb, bo, none⟩) dc bc (S := S) (fun y m' hs => (hs.front 3 rfl).getOwn.intsAt) (fun y m' hs => (hs.front 1 rfl).getOwn.rowsAt (hs.front 2 rfl).lawEnvs.1 HPOS.out) H11.out).mono ?_
        rintro e w12 ⟨v, rfl, h⟩
        obtain ⟨wa, wk, wc_, rfl, hwk⟩ := h.getOwn.slice
        obtain rfl := hwk.out
        obtain ⟨wb, wo, rfl⟩ := h.getOwn.intsAt.some_ (i := 0) (by simp [wayL])
        have H12 : Hid (Sys w12 (five (worldT p d Y) (treeT pt p 1 T) (logT pg p pt tip L1 I1) (poolT pp p (imin (imax 9 0) 1000) LP) (ledgT pl 4)) (own 3 1 (.slice none 0 0) 0 [] :: own 3 1 (.slice (some ⟨wb, wo, none⟩) (wayL T kx).length wc_) (wayL T kx).length (((wayL T kx).map fun i : Nat => (i : Int)).map (Value.int .i64)) :: (own 41 6 (.slice (some ⟨bb, bo, none⟩) T.length bc) T.length (rowsF T S) :: envsT T S :: own 3 1 (.slice (some ⟨db, do_, none⟩) T.length dc) T.length ((T.map (·.1)).map (Value.int .i64)) :: own 55 4 (.slice (some ⟨fb, fo, none⟩) 6 fc) 6 (flatE (fewP 6)) :: blk nc (.cells #[.int .i64 c.f, .int .i64 c.n, .int .i64 c.cl, .int .i64 c.ba, .int .i64 c.mo, .int .i64 c.bt, .int .i64 c.po, .int .i64 c.wi] 23 (0, 0)) :: [base W]))) := h.swap
        obtain ⟨SL, hSL⟩ : ∃ s, s = rising (nubF (dsOf Y (skipV T 1 tip (keyN T kx)))) := ⟨_, rfl⟩
        have HSL := Lib.hid hSL
        clear h hwk hSL H11 hn0 htm htl
        go_upto_block 6 with fail
        go_cut [34, 36, 38] from 212 to 239 (fun sv _ _ wx => ∃ (sa : Option Addr) (sc : Nat), sv = .slice sa SL.length sc ∧ Sys wx (five (worldT p d Y) (treeT pt p 1 T) (logT pg p pt tip L1 I1) (poolT pp p (imin (imax 9 0) 1000) LP) (ledgT pl 4)) (own 3 1 (.slice sa SL.length sc) SL.length (SL.map (Value.int .i64)) :: (own 41 6 (.slice (some ⟨bb, bo, none⟩) T.length bc) T.length (rowsF T S) :: envsT T S :: own 3 1 (.slice (some ⟨db, do_, none⟩) T.length dc) T.length ((T.map (·.1)).map (Value.int .i64)) :: own 55 4 (.slice (some ⟨fb, fo, none⟩) 6 fc) 6 (flatE (fewP 6)) :: blk nc (.cells #[.int .i64 c.f, .int .i64 c.n, .int .i64 c.cl, .int .i64 c.ba, .int .i64 c.mo, .int .i64 c.bt, .int .i64 c.po, .int .i64 c.wi] 23 (0, 0)) :: [base W])))
        case first =>
          rename_i au818_1_ au818_2_ au818_3_ au818_4_ au818_5_ au818_6_
          revert W a0 au766_1_ a1 len1 cap1 z1 a2 len2 cap2 z2 a3 au766_2_ a4 au766_3_ a5 au766_4_ a6 au766_5_ a7 au766_6_ ls is HI1 HLEN1 HI2 HLEN2 au766_7_ w1 p d w2 pl w3 pt w4 pg w5 pp w6 c HG HBT nc x6 au766_8_ wr u72 u73 u74 u75 u76 u77 u78 u79 u80 u81 u82 u83 u84 u85 u86 u87 u88 u89 u90 u91 u92 u93 u94 u95 u96 u97 u98 fc X LP HEW au766_9_ w7 fb fo au766_10_ au766_11_ nd x7 nb x8 HTW H9 HLP wc u16 u27 u28 u29 u30 u31 u32 u104 u105 u106 u107 u108 u109 u110 u111 u112 u113 u114 u115 u116 u117 u118 u119 u120 u121 u122 u123 u124 u125 u126 u127 u128 u129 u130 u131 u132 u133 u134 u135 u136 u137 u138 u139 u140 u141 u142 u143 u144 u145 u146 u147 u148 u149 u150 u151 u152 u153 u154 u155 u156 u157 u158 u159 u160 u161 u162 u163 u164 u165 u166 u167 u168 u169 u170 u171 u172 u173 u174 u175 u176 u177 u178 u179 u180 u181 u182 u183 u184 u185 u186 u187 u188 u189 u190 u191 k0 Y T dc bc HT S bb bo db do_ HKEY tp kx hkm hkl HTP HKX HPOS kt w11 bz tip L1 I1 au818_1_ au818_2_ w12 wc_ wb wo H12 SL HSL au818_3_ au818_4_ au818_5_ au818_6_
          exact hAB_.out
        case rest =>
          rename_i au977_1_ au977_2_ au977_3_
          revert W a0 au766_1_ a1 len1 cap1 z1 a2 len2 cap2 z2 a3 au766_2_ a4 au766_3_ a5 au766_4_ a6 au766_5_ a7 au766_6_ ls is HI1 HLEN1 HI2 HLEN2 au766_7_ w1 p d w2 pl w3 pt w4 pg w5 pp w6 c HG HBT nc x6 au766_8_ wr u72 u73 u74 u75 u76 u77 u78 u79 u80 u81 u82 u83 u84 u85 u86 u87 u88 u89 u90 u91 u92 u93 u94 u95 u96 u97 u98 fc X LP HEW au766_9_ w7 fb fo au766_10_ au766_11_ nd x7 nb x8 HTW H9 HLP au977_1_ u16 u27 u28 u29 u30 u31 u32 u104 u105 u106 u107 u108 u109 u110 u111 u112 u113 u114 u115 u116 u117 u118 u119 u120 u121 u122 u123 u124 u125 u126 u127 u128 u129 u130 u131 u132 u133 u134 u135 u136 u137 u138 u139 u140 u141 u142 u143 u144 u145 u146 u147 u148 u149 u150 u151 u152 u153 u154 u155 u156 u157 u158 u159 u160 u161 u162 u163 u164 u165 u166 u167 u168 u169 u170 u171 u172 u173 u174 u175 u176 u177 u178 u179 u180 u181 u182 u183 u184 u185 u186 u187 u188 u189 u190 u191 k0 Y T dc bc HT S bb bo db do_ HKEY tp kx hkm hkl HTP HKX HPOS kt w11 bz tip L1 I1 au977_2_ au977_3_ w12 wc_ wb wo H12 SL HSL wc u34 u36 u38 u212 u213 u214 u215 u216 u217 u218 u219 u220 u221 u222 u223 u224 u225 u226 u227 u228 u229 u230 u231 u232 u233 u234 u235 u236 u237 u238 u239 hcut
          exact hBB_.out
  case dA =>
          refine ⟨?_⟩
          intro W a0 au766_1_ a1 len1 cap1 z1 a2 len2 cap2 z2 a3 au766_2_ a4 au766_3_ a5 au766_4_ a6 au766_5_ a7 au766_6_ ls is HI1 HLEN1 HI2 HLEN2 au766_7_ w1 p d w2 pl w3 pt w4 pg w5 pp w6 c HG HBT nc x6 au766_8_ wr u72 u73 u74 u75 u76 u77 u78 u79 u80 u81 u82 u83 u84 u85 u86 u87 u88 u89 u90 u91 u92 u93 u94 u95 u96 u97 u98 fc X LP HEW au766_9_ w7 fb fo au766_10_ au766_11_ nd x7 nb x8 HTW H9 HLP wc u16 u27 u28 u29 u30 u31 u32 u104 u105 u106 u107 u108 u109 u110 u111 u112 u113 u114 u115 u116 u117 u118 u119 u120 u121 u122 u123 u124 u125 u126 u127 u128 u129 u130 u131 u132 u133 u134 u135 u136 u137 u138 u139 u140 u141 u142 u143 u144 u145 u146 u147 u148 u149 u150 u151 u152 u153 u154 u155 u156 u157 u158 u159 u160 u161 u162 u163 u164 u165 u166 u167 u168 u169 u170 u171 u172 u173 u174 u175 u176 u177 u178 u179 u180 u181 u182 u183 u184 u185 u186 u187 u188 u189 u190 u191 k0 Y T dc bc HT S bb bo db do_ HKEY tp kx hkm hkl HTP HKX HPOS kt w11 bz tip L1 I1 au818_1_ au818_2_ w12 wc_ wb wo H12 SL HSL au818_3_ au818_4_ au818_5_ au818_6_
          clear hkm
          go_wp2_with fail
          go_loopw [34, 212] (fun sv iv wr => ∃ (t : Nat) (O : List EnvX) (Q : List Int) (sa : Option Addr) (sc : Nat), t ≤ (wayL T kx).length ∧ iv = .int .i64 (t : Int) ∧ sv = .slice sa Q.length sc ∧ Hid (GI T tip kx t O ∧ Q = rising (nubF (dsOf Y O))) ∧ Sys wr (five (worldT p d Y) (treeT pt p 1 T) (logT pg p pt tip L1 I1) (poolT pp p (imin (imax 9 0) 1000) LP) (ledgT pl 4)) (own 3 1 (.slice sa Q.length sc) Q.length (Q.map (Value.int .i64)) :: own 3 1 (.slice (some ⟨wb, wo, none⟩) (wayL T kx).length wc_) (wayL T kx).length (((wayL T kx).map fun i : Nat => (i : Int)).map (Value.int .i64)) :: (own 41 6 (.slice (some ⟨bb, bo, none⟩) T.length bc) T.length (rowsF T S) :: envsT T S :: own 3 1 (.slice (some ⟨db, do_, none⟩) T.length dc) T.length ((T.map (·.1)).map (Value.int .i64)) :: own 55 4 (.slice (some ⟨fb, fo, none⟩) 6 fc) 6 (flatE (fewP 6)) :: blk nc (.cells #[.int .i64 c.f, .int .i64 c.n, .int .i64 c.cl, .int .i64 c.ba, .int .i64 c.mo, .int .i64 c.bt, .int .i64 c.po, .int .i64 c.wi] 23 (0, 0)) :: [base W]))) (fun _ iv _ => (wayL T kx).length - (intOf iv).toNat)
          case atStart => exact ⟨0, [], [], none, 0, by omega, rfl, rfl, ⟨GI.start _ _, rising_nil.symm⟩, H12.out⟩
          case round =>
            clear H12
            obtain ⟨t, O, Q, sa, sc, ht, rfl, rfl, HGI, hR⟩ := hrel
            by_cases hlt : t < (wayL T kx).length
            · have hil : (t : Int) < ((wayL T kx).length : Int) := by omega
              have hwl := HT.out.wayLen kx kx (Nat.le_refl _) HKX.out
              have hiw : IntKind.i64.wrap ((t : Int) + 1) = (t : Int) + 1 := by rw [IntKind.wrap_i64]; have := HT.out.len; have := HT.out.k12; have := HKX.out; omega
              obtain ⟨cur, hcur⟩ : ∃ c, c = (wayL T kx).getD t 0 := ⟨_, rfl⟩
              have hcl : cur < T.length := by rw [hcur]; exact (HT.out.wayNext kx kx (Nat.le_refl _) HKX.out t hlt).1
              have HCL := Lib.hid hcl
              have HCUR := Lib.hid hcur
              have hcn : (cur : Int) < (T.length : Int) := by omega
              have hwc : wr.cell? ⟨wb, wo + t, none⟩ = some (.int .i64 (cur : Int)) := by
                rcases (hR.front 1 rfl).getOwn.intsAt with h | ⟨b, off, e, h⟩
                · simp [wayL] at h
                · cases e
                  rw [h t (by rw [List.length_map]; exact hlt), List.getD_eq_getElem?_getD, List.getElem?_map, List.getElem?_eq_getElem hlt, hcur, List.getD_eq_getElem?_getD, List.getElem?_eq_getElem hlt]
                  simp
              obtain ⟨kc, hkc⟩ : ∃ x, (T[cur]'HCL.out).1 = x := ⟨_, rfl⟩
              have hdc := HKEY.out wr (hR.front 4 rfl).getOwn.intsAt cur HCL.out
              rw [hkc] at hdc
              obtain ⟨va, hva⟩ : ∃ x, x = (S.getD cur (none, 0)).1 := ⟨_, rfl⟩
              obtain ⟨vc, hvc⟩ : ∃ x, x = (S.getD cur (none, 0)).2 := ⟨_, rfl⟩
              obtain ⟨E, hE⟩ : ∃ x, x = (T[cur]'HCL.out).2.envs := ⟨_, rfl⟩
              obtain ⟨ne, hne⟩ : ∃ x, x = E.length := ⟨_, rfl⟩
              have hbc : wr.drew.cell? ⟨bb, bo + cur * 6 + 5, none⟩ = some (.slice va ne vc) := by
                obtain ⟨b, off, e, hh⟩ := (hR.front 2 rfl).getOwn.rowsAt (hR.front 3 rfl).lawEnvs.1 HPOS.out
                cases e
                rw [hva, hvc, hne, hE]
                exact hh cur HCL.out 5 _ rfl
              have HEA : Hid (∀ (z : World) (m' : Nat → Thing) (l' : List Thing), Sys z m' (envsT T S :: l') → EnvsAt z va E) := by
                intro z m' l' hz
                rw [hva, hE]
                exact hz.lawEnvs.2 cur HCL.out
              have HSS : Hid (wr.drew.cell? ⟨db, do_ + cur, none⟩ = some (.int .i64 kc)) := hdc
              have HRD := Lib.hid hR.drew
              have HKC : Hid (keyN T cur = kc) := by show _ = _; rw [keyN_eq HCL.out, hkc]
              have HEE : Hid (E = (T.getD cur (0, zeroBlk)).2.envs) := by show _ = _; rw [hE, List.getD_eq_getElem?_getD, List.getElem?_eq_getElem HCL.out]; rfl
              have HEF : Hid ((∀ e ∈ E, e ∈ fewP 6) ∧ E.length ≤ 6) := by rw [hE, ← HT.out.bk_get cur HCL.out]; exact HT.out.envs _
              have HLE : Hid (E.length = ne) := hne.symm
              have HLT := Lib.hid hlt
              have HBC := Lib.hid hbc
              clear hwl hcur hcl hdc hkc hva hvc hE hne hbc hR hlt ht
              go_upto_region 37 with fail
              clear hwc
              refine wp_region_seq (fun x : World => x.cell? ⟨db, do_ + cur, none⟩ = some (.int .i64 kc)) anyW [] [(0, 0, some 216), (1, 0, some 217), (2, 0, some 218), (3, 1, some 219), (4, 0, some 220), (5, 2, some 221), (6, 0, some 222)] (by kernel_rfl) (by kernel_rfl) (fun _ _ _ d _ h => by cases d <;> exact h) HSS.out anyW.i ?_
              repeat (first | (refine seqW (v := ?_) rfl rfl (by kernel_rfl) ?_ ?_; rotate_left; (focus ((intro x; go_simp); try (with_reducible rfl))); try simp only [Act.put, List.setIfInBounds_toArray, List.set_cons_zero, List.set_cons_succ]) | (refine seqS (v := ?_) rfl rfl (by kernel_rfl) ?_ ?_; rotate_left; (focus (intro x hS; first | (have hS1 := hS; go_simp; try (with_reducible rfl)))); try simp only [Act.put, List.setIfInBounds_toArray, List.set_cons_zero, List.set_cons_succ]) | (refine seqX rfl rfl (by kernel_rfl) ?_; try simp only [Act.put, List.setIfInBounds_toArray, List.set_cons_zero, List.set_cons_succ]))
              refine seqL rfl rfl (fun K hK => ?_)
              go_simp
              go_at_call 26
              refine (clog_tip HRD.out rfl).mono ?_
              rintro e z1 ⟨rfl, rfl⟩
              refine hK.out _ _ anyW.i ?_ (fun _ hSt => ?_)
              · exact HSS.out
              clear hSt hK K
              try simp only [Act.put, List.setIfInBounds_toArray, List.set_cons_zero, List.set_cons_succ]
              repeat (first | (refine seqW (v := ?_) rfl rfl (by kernel_rfl) ?_ ?_; rotate_left; (focus ((intro x; go_simp); try (with_reducible rfl))); try simp only [Act.put, List.setIfInBounds_toArray, List.set_cons_zero, List.set_cons_succ]) | (refine seqS (v := ?_) rfl rfl (by kernel_rfl) ?_ ?_; rotate_left; (focus (intro x hS; first | (have hS1 := hS; go_simp; try (with_reducible rfl)))); try simp only [Act.put, List.setIfInBounds_toArray, List.set_cons_zero, List.set_cons_succ]) | (refine seqX rfl rfl (by kernel_rfl) ?_; try simp only [Act.put, List.setIfInBounds_toArray, List.set_cons_zero, List.set_cons_succ]))
              refine seqE ?_
              by_cases hk : kc = tip
              · have hkb : (kc == tip) = true := by simp [hk]
                try rw [hkb]
                obtain rfl : Q = SL := by rw [HGI.out.2, HSL.out, HGI.out.1.stop HLT.out (by rw [← HCUR.out, HKC.out, hk])]
                have HR := Lib.hid (HRD.out.drop 1 rfl)
                clear hk
                go_wp2_with fail
                go_meet
                case rel => exact ⟨sa, sc, rfl, HR.out⟩
              · have hkb : (kc == tip) = false := by simp [hk]
                try rw [hkb]
                have HNX := Lib.hid (HGI.out.1.next HT.out HKX.out HLT.out (by rw [← HCUR.out, HKC.out]; exact hk))
                rw [← HCUR.out, ← HEE.out] at HNX
                have hbc2 := HBC.out
                have HOL := Lib.hid (HGI.out.1.len HT.out (Nat.le_of_lt HLT.out))
                clear hk
                go_wp2_with fail
                clear hbc2
                go_loopw [34, 229] (fun sv jv wr => ∃ (j : Nat) (Q : List Int) (sa : Option Addr) (sc : Nat), j ≤ ne ∧ jv = .int .i64 (j : Int) ∧ sv = .slice sa Q.length sc ∧ Hid (Q = rising (nubF (dsOf Y (O ++ E.take j)))) ∧ Sys wr (five (worldT p d Y) (treeT pt p 1 T) (logT pg p pt tip L1 I1) (poolT pp p (imin (imax 9 0) 1000) LP) (ledgT pl 4)) (own 3 1 (.slice sa Q.length sc) Q.length (Q.map (Value.int .i64)) :: own 3 1 (.slice (some ⟨wb, wo, none⟩) (wayL T kx).length wc_) (wayL T kx).length (((wayL T kx).map fun i : Nat => (i : Int)).map (Value.int .i64)) :: (own 41 6 (.slice (some ⟨bb, bo, none⟩) T.length bc) T.length (rowsF T S) :: envsT T S :: own 3 1 (.slice (some ⟨db, do_, none⟩) T.length dc) T.length ((T.map (·.1)).map (Value.int .i64)) :: own 55 4 (.slice (some ⟨fb, fo, none⟩) 6 fc) 6 (flatE (fewP 6)) :: blk nc (.cells #[.int .i64 c.f, .int .i64 c.n, .int .i64 c.cl, .int .i64 c.ba, .int .i64 c.mo, .int .i64 c.bt, .int .i64 c.po, .int .i64 c.wi] 23 (0, 0)) :: [base W]))) (fun _ jv _ => ne - (intOf jv).toNat)
                case atStart => exact ⟨0, Q, sa, sc, by omega, rfl, rfl, by show _ = _; rw [List.take_zero, List.append_nil]; exact HGI.out.2, HRD.out⟩
                case round =>
                  obtain ⟨j, P, pa, pc, hj, rfl, rfl, HP, hR⟩ := hrel
                  by_cases hjt : j < ne
                  · have hjl : (j : Int) < (ne : Int) := by omega
                    have hjw : IntKind.i64.wrap ((j : Int) + 1) = (j : Int) + 1 := by rw [IntKind.wrap_i64]; have := HEF.out.2; have := HLE.out; omega
                    obtain ⟨⟨ec, en, ef, ei⟩, he⟩ : ∃ e, e = E.getD j default := ⟨_, rfl⟩
                    have hel : j < E.length := by rw [HLE.out]; exact hjt
                    have hat := HEA.out _ _ _ (hR.front 3 rfl)
                    obtain ⟨eb, eo, rfl⟩ := hat.some_ hel
                    have hce := hat.get hel
                    rw [← he] at hce
                    have HCE : Hid (∀ (k : Nat) (u : Value), ([.int .i64 ec, .int .u64 en, .int .u64 ef, .int .i64 ei] : List Value)[k]? = some u → wr.cell? ⟨eb, eo + j * 4 + k, none⟩ = some u) := hce
                    have hmem : E.getD j default ∈ E := by rw [List.getD_eq_getElem?_getD, List.getElem?_eq_getElem hel]; exact List.getElem_mem hel
                    have hie := HEF.out.1 _ hmem
                    rw [← he] at hie
                    have HIEE := Lib.hid hie
                    have HTK : Hid (O ++ E.take (j + 1) = (O ++ E.take j) ++ [⟨ec, en, ef, ei⟩]) := by
                      show _ = _
                      rw [he, List.take_succ_eq_append_getElem hel, List.getD_eq_getElem?_getD, List.getElem?_eq_getElem hel, List.append_assoc]; rfl
                    have HSAME := Lib.hid (same_dig Y (HT.out.few _ hie).1)
                    obtain ⟨nx, y1, EN3, EX3, ES3, H5⟩ := hR.box (.cells #[.int .i64 ec, .int .u64 en, .int .u64 ef, .int .i64 ei] 55 (0, 0))
                    have HJT := Lib.hid hjt
                    clear hat hce he hR hmem hie hel hj hjt
                    go_upto_region 41 with (refine wpList_load_at rfl 55 _ rfl eb (eo + j * 4) rfl [.int .i64 ec, .int .u64 en, .int .u64 ef, .int .i64 ei] _ HCE.out Tryz.underlying55 rfl size4 ?_)
                    rw [EX3.out, EN3.out]
                    have hbe := H5.out.nth 0 rfl
                    go_wp2_with (refine wpList_load_row rfl 55 _ rfl nx rfl _ _ _ _ hbe Tryz.underlying55 rfl size4 ?_)
                    refine (world_digest ⟨ec, en, ef, ei⟩ (fewP_wf HIEE.out) H5.out rfl (by have := HT.out.xt; have := HT.out.k12; omega)).mono ?_
                    rintro z y2 ⟨rfl, h⟩
                    rw [HSAME.out, five0] at h
                    obtain ⟨dj, hdj⟩ : ∃ x, x = dg Y.T (envB ⟨ec, en, ef, ei⟩) := ⟨_, rfl⟩
                    rw [← hdj]
                    have H6 := Lib.hid h
                    have HPN : Hid (insR P dj = rising (nubF (dsOf Y (O ++ E.take (j + 1))))) := by
                      show _ = _
                      rw [HP.out, insR_eq _ _ (nubF_nodup _), HTK.out, show dsOf Y ((O ++ E.take j) ++ [⟨ec, en, ef, ei⟩]) = dsOf Y (O ++ E.take j) ++ [dj] by rw [hdj]; simp [dsOf], nubF_snoc]
                    have hpl : P.length ≤ 100000 := by
                      rw [HP.out, rising_length]
                      have h1 := nubF_len (dsOf Y (O ++ E.take j))
                      have h2 : (dsOf Y (O ++ E.take j)).length = O.length + (E.take j).length := by simp [dsOf]
                      have h3 : (E.take j).length ≤ j := List.length_take_le _ _
                      have := HOL.out; have := HJT.out; have := HLE.out; have := HEF.out.2
                      omega
                    clear h hdj hbe
                    go_wp2_with fail
                    refine (rising_any pa P pc dj y2 (H6.out.front 1 rfl).getOwn.intsAt hpl (fun b off e => (H6.out.front 1 rfl).getOwn.lt (by rw [e]; rfl))).mono ?_
                    rintro z y3 ⟨v, rfl, ho, hn, hB⟩
                    rw [HPN.out] at ho
                    obtain ⟨pa2, pk2, pc2, rfl, hpk⟩ := ho.slice
                    obtain rfl := hpk.out
                    obtain ⟨P2, hP2⟩ : ∃ x, x = rising (nubF (dsOf Y (O ++ E.take (j + 1)))) := ⟨_, rfl⟩
                    rw [← hP2] at ho hn ⊢
                    have H7 := Lib.hid (((H6.out.pushOwn hB ho hn).drop 1 rfl).drop 1 rfl)
                    have HP2 := Lib.hid hP2
                    clear ho hn hB hpk hP2 hpl
                    go_wp2_with fail
                    go_roundw
                    case rel => first | exact ⟨j + 1, P2, pa2, pc2, by have := HJT.out; omega, by go_num, rfl, HP2.out, H7.out⟩ | ((repeat apply Exists.intro); exact ⟨⟨j + 1, P2, pa2, pc2, by have := HJT.out; omega, by go_num, rfl, HP2.out, H7.out⟩, rfl⟩)
                    case measure => simp [intOf]; have := HJT.out; omega
                  · obtain rfl : ne = j := by omega
                    have HP3 : Hid (P = rising (nubF (dsOf Y (O ++ E)))) := by
                      show _ = _
                      rw [HP.out, List.take_of_length_le (by rw [HLE.out]; exact Nat.le_refl _)]
                    have HR := Lib.hid hR
                    clear hR hjt hj
                    go_wp2_with fail
                    go_roundw
                    case rel => exact ⟨t + 1, O ++ E, P, pa, pc, by have := HLT.out; omega, by go_num, rfl, ⟨HNX.out, HP3.out⟩, HR.out⟩
                    case measure => simp [intOf]; have := HLT.out; omega
            · obtain rfl : t = (wayL T kx).length := by omega
              obtain rfl : Q = SL := by rw [HGI.out.2, HSL.out, HGI.out.1.2.2 rfl]
              have HR := Lib.hid (hR.drop 1 rfl)
              clear hR hlt ht
              go_wp2_with fail
              go_meet
              case rel => exact ⟨sa, sc, rfl, HR.out⟩
  case dB =>
          refine ⟨?_⟩
          intro W a0 au766_1_ a1 len1 cap1 z1 a2 len2 cap2 z2 a3 au766_2_ a4 au766_3_ a5 au766_4_ a6 au766_5_ a7 au766_6_ ls is HI1 HLEN1 HI2 HLEN2 au766_7_ w1 p d w2 pl w3 pt w4 pg w5 pp w6 c HG HBT nc x6 au766_8_ wr u72 u73 u74 u75 u76 u77 u78 u79 u80 u81 u82 u83 u84 u85 u86 u87 u88 u89 u90 u91 u92 u93 u94 u95 u96 u97 u98 fc X LP HEW au766_9_ w7 fb fo au766_10_ au766_11_ nd x7 nb x8 HTW H9 HLP au977_1_ u16 u27 u28 u29 u30 u31 u32 u104 u105 u106 u107 u108 u109 u110 u111 u112 u113 u114 u115 u116 u117 u118 u119 u120 u121 u122 u123 u124 u125 u126 u127 u128 u129 u130 u131 u132 u133 u134 u135 u136 u137 u138 u139 u140 u141 u142 u143 u144 u145 u146 u147 u148 u149 u150 u151 u152 u153 u154 u155 u156 u157 u158 u159 u160 u161 u162 u163 u164 u165 u166 u167 u168 u169 u170 u171 u172 u173 u174 u175 u176 u177 u178 u179 u180 u181 u182 u183 u184 u185 u186 u187 u188 u189 u190 u191 k0 Y T dc bc HT S bb bo db do_ HKEY tp kx hkm hkl HTP HKX HPOS kt w11 bz tip L1 I1 au977_2_ au977_3_ w12 wc_ wb wo H12 SL HSL wc u34 u36 u38 u212 u213 u214 u215 u216 u217 u218 u219 u220 u221 u222 u223 u224 u225 u226 u227 u228 u229 u230 u231 u232 u233 u234 u235 u236 u237 u238 u239 hcut
          obtain ⟨sa, sc, rfl, h⟩ := hcut
          have H13 := Lib.hid h
          clear h H12
          obtain ⟨kv, hkv⟩ : ∃ x, (T[kx]'HKX.out).1 = x := ⟨_, rfl⟩
          obtain ⟨kw, hkw⟩ : ∃ x, (T[kx]'HKX.out).2.view = x := ⟨_, rfl⟩
          have HKEYX : Hid (∀ z, IntsAt z (some ⟨db, do_, none⟩) (T.map (·.1)) → z.cell? ⟨db, do_ + kx, none⟩ = some (.int .i64 kv)) := by
            intro z hz
            rw [← hkv]
            exact HKEY.out z hz kx HKX.out
          have HKV : Hid (keyN T kx = kv) := by show _ = _; rw [keyN_eq HKX.out, hkv]
          have HBK : Hid (bk T kv = (T[kx]'HKX.out).2) := by show _ = _; rw [← hkv]; exact HT.out.bk_get kx HKX.out
          have HSOME : Hid ((alook T kv).isSome = true) := by show _ = _; rw [← hkv]; exact HT.out.some_ kx HKX.out
          have HKW : Hid (0 ≤ kw ∧ kw ≤ 24) := by
            have h1 := HT.out.inv.1 kv
            have h2 := HT.out.vw kv
            have h3 := HT.out.k12
            rw [HBK.out, hkw] at h1 h2
            show _ ∧ _
            omega
          have HSL2 : Hid (rising (nubF (dsOf Y (skipV T 1 tip kv))) = SL) := by show _ = _; rw [HSL.out, HKV.out]
          have HSLL : Hid (SL.length ≤ 150) := by
            show _ ≤ _
            rw [← HSL2.out, rising_length]
            have h1 := nubF_len (dsOf Y (skipV T 1 tip kv))
            have h2 := HT.out.slen tip kv
            have h3 : (dsOf Y (skipV T 1 tip kv)).length = (skipV T 1 tip kv).length := by simp [dsOf]
            omega
          have hcx : wc.cell? ⟨db, do_ + kx, none⟩ = some (.int .i64 kv) := HKEYX.out _ (H13.out.front 3 rfl).getOwn.intsAt
          go_wp2_with fail
          refine (prop_skip kv HT.out.inv HT.out.tin (by have := HT.out.slen tip kv; omega) (by have := HT.out.xt; have := HT.out.k12; omega) rfl rfl rfl H13.out).mono ?_
          rintro e w14 ⟨vs, rfl, h⟩
          rw [compact_nub, HSL2.out] at h
          obtain ⟨ka, kk_, kc, rfl, hkk⟩ := h.getOwn.slice
          obtain rfl := hkk.out
          have H14 := Lib.hid h
          clear h hkk hcx
          go_wp2_with fail
          refine (sameints_any ka sa SL SL kc sc w14 (H14.out.getOwn.intsAt) ((H14.out.front 1 rfl).getOwn.intsAt) (by have := HSLL.out; omega) (by have := HSLL.out; omega)).mono ?_
          rintro e w15 ⟨rfl, hc⟩
          have H15 := Lib.hid (H14.out.chg0 hc).tail
          clear hc
          obtain ⟨W0, hW0⟩ : ∃ x, bits BinOp.and IntKind.i64 a4 15 = x := ⟨_, rfl⟩
          obtain ⟨V0, hV0⟩ : ∃ x, bits BinOp.and IntKind.i64 a5 31 = x := ⟨_, rfl⟩
          have HW0 : Hid (0 ≤ W0 ∧ W0 ≤ 15) := by show _ ∧ _; rw [i64_and15] at hW0; omega
          have HV0 : Hid (0 ≤ V0 ∧ V0 ≤ 31) := by show _ ∧ _; rw [i64_andm31] at hV0; omega
          have HC47 : Hid (∀ z, Sys z (five (worldT p d Y) (treeT pt p 1 T) (logT pg p pt tip L1 I1) (poolT pp p (imin (imax 9 0) 1000) LP) (ledgT pl 4)) (own 3 1 (.slice sa SL.length sc) SL.length (SL.map (Value.int .i64)) :: (own 41 6 (.slice (some ⟨bb, bo, none⟩) T.length bc) T.length (rowsF T S) :: envsT T S :: own 3 1 (.slice (some ⟨db, do_, none⟩) T.length dc) T.length ((T.map (·.1)).map (Value.int .i64)) :: own 55 4 (.slice (some ⟨fb, fo, none⟩) 6 fc) 6 (flatE (fewP 6)) :: blk nc (.cells #[.int .i64 c.f, .int .i64 c.n, .int .i64 c.cl, .int .i64 c.ba, .int .i64 c.mo, .int .i64 c.bt, .int .i64 c.po, .int .i64 c.wi] 23 (0, 0)) :: [base W])) → z.cell? ⟨bb, bo + kx * 6, none⟩ = some (.int .i64 kw) ∧ z.cell? ⟨db, do_ + kx, none⟩ = some (.int .i64 kv)) := by
            intro z hz
            obtain ⟨b, off, e, hh⟩ := (hz.front 1 rfl).getOwn.rowsAt (hz.front 2 rfl).lawEnvs.1 HPOS.out
            cases e
            exact ⟨by rw [← hkw]; exact hh kx HKX.out 0 _ rfl, HKEYX.out _ (hz.front 3 rfl).getOwn.intsAt⟩
          have Z1 := Lib.hid (H15.out.alloc (.cells #[.int .i64 0, .int .i64 0, .slice none 0 0] 34 (0, 0)) rfl).drew
          obtain ⟨nq, hnb⟩ : ∃ n, n = w15.heap.size := ⟨_, rfl⟩
          obtain ⟨z1, hz1⟩ : ∃ x, x = (w15.alloc (.cells #[.int .i64 0, .int .i64 0, .slice none 0 0] 34 (0, 0))).drew := ⟨_, rfl⟩
          rw [← hnb, ← hz1] at Z1
          have NB := Lib.hid hnb
          have HZ1 := Lib.hid hz1
          have HKWE := Lib.hid hkw
          clear hkv hkw hnb hz1
          go_upto_region 47 with fail
          clear hkm hW0 hV0
          go_cut [39] from 255 to 264 (fun qp wx => ∃ nq, qp = .pointer (some ⟨nq, 0, none⟩) ∧ Sys wx (five (worldT p d Y) (treeT pt p 1 T) (logT pg p pt tip L1 I1) (poolT pp p (imin (imax 9 0) 1000) LP) (ledgT pl 4)) (blk nq (.cells #[.int .i64 kw, .int .i64 kv, .slice none 0 0] 34 (0, 0)) :: own 3 1 (.slice sa SL.length sc) SL.length (SL.map (Value.int .i64)) :: (own 41 6 (.slice (some ⟨bb, bo, none⟩) T.length bc) T.length (rowsF T S) :: envsT T S :: own 3 1 (.slice (some ⟨db, do_, none⟩) T.length dc) T.length ((T.map (·.1)).map (Value.int .i64)) :: own 55 4 (.slice (some ⟨fb, fo, none⟩) 6 fc) 6 (flatE (fewP 6)) :: blk nc (.cells #[.int .i64 c.f, .int .i64 c.n, .int .i64 c.cl, .int .i64 c.ba, .int .i64 c.mo, .int .i64 c.bt, .int .i64 c.po, .int .i64 c.wi] 23 (0, 0)) :: [base W])))
          case first =>
            refine wp_region_seq (fun x : World => x.cell? ⟨bb, bo + kx * 6, none⟩ = some (.int .i64 kw) ∧ x.cell? ⟨db, do_ + kx, none⟩ = some (.int .i64 kv)) anyW [11] [(0, 0, some 255), (1, 0, some 256), (2, 0, some 257), (3, 0, some 258), (4, 1, some 259), (5, 0, some 260), (6, 0, some 261), (7, 0, some 262), (8, 1, some 263), (9, 0, some 264), (10, 2, some 39), (11, 3, none)] (by kernel_rfl) (by kernel_rfl) (fun _ _ _ d _ h => by cases d <;> exact h) (HC47.out _ H15.out.drew) anyW.i ?_
            repeat (first | (refine seqW (v := ?_) rfl rfl (by kernel_rfl) ?_ ?_; rotate_left; (focus ((intro x; go_simp); try (with_reducible rfl))); try simp only [Act.put, List.setIfInBounds_toArray, List.set_cons_zero, List.set_cons_succ]) | (refine seqS (v := ?_) rfl rfl (by kernel_rfl) ?_ ?_; rotate_left; (focus (intro x hS; first | (obtain ⟨hS1, hS2⟩ := hS; go_simp; try (with_reducible rfl)))); try simp only [Act.put, List.setIfInBounds_toArray, List.set_cons_zero, List.set_cons_succ]) | (refine seqX rfl rfl (by kernel_rfl) ?_; try simp only [Act.put, List.setIfInBounds_toArray, List.set_cons_zero, List.set_cons_succ]))
            refine seqL rfl rfl (fun K hK => ?_)
            go_simp
            rw [← HZ1.out, ← NB.out]
            refine hK.out _ _ anyW.i ?_ (fun _ hSt => ?_)
            · exact HC47.out _ Z1.out.tail
            clear hSt hK K
            try simp only [Act.put, List.setIfInBounds_toArray, List.set_cons_zero, List.set_cons_succ]
            refine seqT rfl rfl (fun K hK => ?_)
            have hzz := setRow_heap z1 nq _ (#[.int .i64 kw, .int .i64 kv, .slice none 0 0]) _ _ Z1.out.getBlk
            have HF := Lib.hid (Z1.out.store ((Chg.refl (· = nq) z1).row (#[.int .i64 kw, .int .i64 kv, .slice none 0 0])) hzz)
            have hbb := Z1.out.getBlk
            refine step_store_row rfl 34 _ _ rfl nq (#[.int .i64 kw, .int .i64 kv, .slice none 0 0]) rfl rfl _ _ hbb size3 rfl (by simp [Value.oneCell']) ?_
            clear hbb hzz
            refine hK.out _ _ anyW.i (fun _ => ?_)
            clear hK K
            try simp only [Act.put, List.setIfInBounds_toArray, List.set_cons_zero, List.set_cons_succ]
            refine seqE ?_
            go_wp2_with fail
            go_meet
            case rel => exact ⟨nq, rfl, HF.out⟩
          case rest =>
            obtain ⟨nq, rfl, h⟩ := hcut
            have H16 := Lib.hid h
            clear h H15 Z1 NB HZ1
            have hbq := H16.out.nth 0 rfl
            have hbc := H16.out.nth 6 rfl
            obtain ⟨rv, hrv⟩ : ∃ x, V0.tmod c.n = x := ⟨_, rfl⟩
            have hcn : ¬ c.n = 0 := by have := HG.out.1; have := HG.out.2.2; omega
            have HRV : Hid (rv = leadOf c V0) := by
              show _ = _
              have h1 := HV0.out.1
              unfold leadOf
              rw [← hrv, if_neg (by omega), Int.tmod_eq_emod_of_nonneg h1]
            have HVR : Hid (-9223372036854775808 ≤ V0 ∧ V0 ≤ 9223372036854775807) := by have := HV0.out; show _ ∧ _; omega
            have HNONE : Hid (∀ z : Int, makeB T c z V0 0 100000 = false) := by
              intro z
              unfold makeB
              rw [HT.out.none_ (by decide)]
              simp
            have HRVV := Lib.hid hrv
            clear hrv
            obtain ⟨mk, hmk⟩ : ∃ b, b = makeB T c W0 V0 kw kv := ⟨_, rfl⟩
            have HMK := Lib.hid hmk
            clear hmk
            go_upto_region 48 with fail
            go_cut [40, 41] from 265 to 276 (fun bp ov wx => ov = .bool mk ∧ ∃ nb, bp = .pointer (some ⟨nb, 0, none⟩) ∧ (mk = false → ∃ BC, Sys wx (five (worldT p d Y) (treeT pt p 1 T) (logT pg p pt tip L1 I1) (poolT pp p (imin (imax 9 0) 1000) LP) (ledgT pl 4)) (blk nb BC :: (blk nq (.cells #[.int .i64 kw, .int .i64 kv, .slice none 0 0] 34 (0, 0)) :: own 3 1 (.slice sa SL.length sc) SL.length (SL.map (Value.int .i64)) :: (own 41 6 (.slice (some ⟨bb, bo, none⟩) T.length bc) T.length (rowsF T S) :: envsT T S :: own 3 1 (.slice (some ⟨db, do_, none⟩) T.length dc) T.length ((T.map (·.1)).map (Value.int .i64)) :: own 55 4 (.slice (some ⟨fb, fo, none⟩) 6 fc) 6 (flatE (fewP 6)) :: blk nc (.cells #[.int .i64 c.f, .int .i64 c.n, .int .i64 c.cl, .int .i64 c.ba, .int .i64 c.mo, .int .i64 c.bt, .int .i64 c.po, .int .i64 c.wi] 23 (0, 0)) :: [base W])))) ∧ (mk = true → ∃ (ua va : Option Addr) (uc vc : Nat) (BL : List EnvX) (SGN : WX), Hid (BL = packV Y T 1 tip kv LP c.bt) ∧ Hid (SGN = signBlk Y (⟨V0, W0, kw, kv, [], BL⟩ : BlkX)) ∧ Sys wx (five (worldT p d SGN) (treeT pt p 1 T) (logT pg p pt tip L1 I1) (poolT pp p (imin (imax 9 0) 1000) LP) (ledgT pl 4)) (blk nb (.cells #[.int .i64 V0, .int .i64 W0, .int .i64 kw, .int .i64 kv, .slice ua 0 uc, .slice va BL.length vc] 41 (0, 0)) :: blkT (bval (⟨V0, W0, kw, kv, [], BL⟩ : BlkX) ua uc va vc) (⟨V0, W0, kw, kv, [], BL⟩ : BlkX) :: (blk nq (.cells #[.int .i64 kw, .int .i64 kv, .slice none 0 0] 34 (0, 0)) :: own 3 1 (.slice sa SL.length sc) SL.length (SL.map (Value.int .i64)) :: (own 41 6 (.slice (some ⟨bb, bo, none⟩) T.length bc) T.length (rowsF T S) :: envsT T S :: own 3 1 (.slice (some ⟨db, do_, none⟩) T.length dc) T.length ((T.map (·.1)).map (Value.int .i64)) :: own 55 4 (.slice (some ⟨fb, fo, none⟩) 6 fc) 6 (flatE (fewP 6)) :: blk nc (.cells #[.int .i64 c.f, .int .i64 c.n, .int .i64 c.cl, .int .i64 c.ba, .int .i64 c.mo, .int .i64 c.bt, .int .i64 c.po, .int .i64 c.wi] 23 (0, 0)) :: [base W])))))
            case first =>
              cases mk with
              | false =>
                have HMF : Hid (makeB T c W0 V0 kw kv = false) := HMK.out.symm
                go_wp2_with (first | (refine wpList_load_row rfl 23 _ rfl nc rfl _ _ _ _ hbc Tryz.underlying23 rfl size8 ?_) | (refine wpList_load_row rfl 34 _ rfl nq rfl _ _ _ _ hbq Tryz.underlying34 rfl size3 ?_))
                refine (prop_make_no (c := c) (who := W0) (view := V0) (hv := kw) (hb := kv) (ha := none) (hc := 0) (HY := []) HG.out HVR.out HMF.out rfl H16.out).mono ?_
                rintro e w17 ⟨rfl, h⟩
                have H17 := Lib.hid h
                clear h hbq hbc
                go_wp2_with fail
                go_meet
                case rel => exact ⟨rfl, w17.heap.size, rfl, fun _ => ⟨_, H17.out.alloc (.cells #[.int .i64 0, .int .i64 0, .int .i64 0, .int .i64 0, .slice none 0 0, .slice none 0 0] 41 (0, 0)) rfl⟩, fun h => by cases h⟩
              | true =>
                have HMT : Hid (makeB T c W0 V0 kw kv = true) := HMK.out.symm
                have hwf : (Lit.int .i64 W0).wf = true := wf_mk (by have := HW0.out; omega) (by have := HW0.out; omega)
                have HWF := Lib.hid hwf
                clear hwf
                go_wp2_with (first | (refine wpList_load_row rfl 23 _ rfl nc rfl _ _ _ _ hbc Tryz.underlying23 rfl size8 ?_) | (refine wpList_load_row rfl 34 _ rfl nq rfl _ _ _ _ hbq Tryz.underlying34 rfl size3 ?_))
                refine (prop_make_yes (X := Y) (LP := LP) (c := c) (who := W0) (view := V0) (hv := kw) (hb := kv) (ha := none) (hc := 0) (HY := []) HG.out HVR.out HWF.out HMT.out (fun y m' hs => SliceIn.nil _ _) HT.out.inv HT.out.tin (by have := HT.out.slen tip kv; omega) (by rw [compact_nub, HSL2.out]; have := HSLL.out; omega) (fun e he => fewP_wf (HLP.out.1 e he)) (fun e he => (HT.out.few e (HLP.out.1 e he)).1) (by have := HLP.out.2.1; omega) (by have := HBT.out; omega) (by have := HT.out.xt; have := HT.out.k12; omega) rfl rfl rfl rfl H16.out).mono ?_
                rintro e w17 ⟨ua, uc, va, vc, he, h⟩
                obtain ⟨BL, hBL⟩ : ∃ x, x = packV Y T 1 tip kv LP c.bt := ⟨_, rfl⟩
                rw [← hBL, five0] at h
                rw [← hBL] at he
                obtain rfl : e = .returned (.tuple #[.agg #[.int .i64 V0, .int .i64 W0, .int .i64 kw, .int .i64 kv, .slice ua 0 uc, .slice va BL.length vc], .bool true]) := he
                obtain ⟨SGN, hSG⟩ : ∃ s, s = signBlk Y (⟨V0, W0, kw, kv, [], BL⟩ : BlkX) := ⟨_, rfl⟩
                rw [← hSG] at h
                have H17 := Lib.hid h
                have HBL := Lib.hid hBL
                have HSG := Lib.hid hSG
                clear h hbq hbc hBL hSG
                go_wp2_with fail
                go_meet
                case rel => exact ⟨rfl, w17.heap.size, rfl, (fun h => by cases h), fun _ => ⟨ua, va, uc, vc, BL, SGN, HBL.out, HSG.out, H17.out.alloc (.cells #[.int .i64 V0, .int .i64 W0, .int .i64 kw, .int .i64 kv, .slice ua 0 uc, .slice va BL.length vc] 41 (0, 0)) rfl⟩⟩
            case rest =>
              obtain ⟨rfl, nb, rfl, hf, ht⟩ := hcut
              have HFF := Lib.hid hf
              have HTT := Lib.hid ht
              clear hf ht hbq hbc
              have hrv := HRVV.out
              go_upto_region 49 with fail
              go_cut [290] from 277 to 289 (fun tv wx => tv = .bool false ∧ wx = wc)
              case first =>
                cases mk with
                | false =>
                  obtain ⟨BC, h⟩ := HFF.out rfl
                  obtain ⟨c0, c1, c2, c3, c4, c5, c6, c7⟩ := cells8 (h.nth 7 rfl)
                  obtain ⟨q0, q1, q2⟩ := cells3 (h.nth 1 rfl)
                  clear h
                  by_cases hwr : W0 = rv
                  · have hb1 : (W0 == rv) = true := by simp [hwr]
                    have hb2 : ¬ kw < V0 := by
                      intro hlt
                      have h1 := HMK.out
                      unfold makeB at h1
                      rw [HSOME.out, ← HRV.out] at h1
                      simp [hwr, hlt] at h1
                    clear hwr
                    go_wp2_with fail
                    go_meet
                    case rel => exact ⟨rfl, rfl⟩
                  · have hb1 : (W0 == rv) = false := by simp [hwr]
                    clear hwr
                    go_wp2_with fail
                    go_meet
                    case rel => exact ⟨rfl, rfl⟩
                | true =>
                  obtain ⟨ua, va, uc, vc, BL, SGN, _, _, h⟩ := HTT.out rfl
                  obtain ⟨c0, c1, c2, c3, c4, c5, c6, c7⟩ := cells8 (h.nth 8 rfl)
                  obtain ⟨q0, q1, q2⟩ := cells3 (h.nth 2 rfl)
                  have hyes : W0 = rv ∧ kw < V0 := by
                    have h1 := HMK.out
                    unfold makeB at h1
                    rw [HSOME.out, ← HRV.out] at h1
                    simpa using h1
                  have hb1 : (W0 == rv) = true := by rw [hyes.1]; simp
                  have hb2 : kw < V0 := hyes.2
                  clear h hyes
                  go_wp2_with fail
                  go_meet
                  case rel => exact ⟨rfl, rfl⟩
              case rest =>
                obtain ⟨rfl, rfl⟩ := hcut
                go_upto_if 291 with fail
                go_cut [42] from 292 to 344 (fun _ wx => ∃ Y3, Sys wx (five (worldT p d Y3) (treeT pt p 1 T) (logT pg p pt tip L1 I1) (poolT pp p (imin (imax 9 0) 1000) LP) (ledgT pl 4)) (blk nq (.cells #[.int .i64 kw, .int .i64 kv, .slice none 0 0] 34 (0, 0)) :: own 3 1 (.slice sa SL.length sc) SL.length (SL.map (Value.int .i64)) :: (own 41 6 (.slice (some ⟨bb, bo, none⟩) T.length bc) T.length (rowsF T S) :: envsT T S :: own 3 1 (.slice (some ⟨db, do_, none⟩) T.length dc) T.length ((T.map (·.1)).map (Value.int .i64)) :: own 55 4 (.slice (some ⟨fb, fo, none⟩) 6 fc) 6 (flatE (fewP 6)) :: blk nc (.cells #[.int .i64 c.f, .int .i64 c.n, .int .i64 c.cl, .int .i64 c.ba, .int .i64 c.mo, .int .i64 c.bt, .int .i64 c.po, .int .i64 c.wi] 23 (0, 0)) :: [base W])))
                case first =>
                  cases mk with
                  | false =>
                    obtain ⟨BC, h⟩ := HFF.out rfl
                    have H18 := Lib.hid h
                    clear h
                    go_wp2_with fail
                    go_meet
                    case rel => exact ⟨Y, H18.out.tail⟩
                  | true =>
                    have hyes : W0 = rv ∧ kw < V0 := by
                      have h1 := HMK.out
                      unfold makeB at h1
                      rw [HSOME.out, ← HRV.out] at h1
                      simpa using h1
                    have HYES := Lib.hid hyes
                    obtain ⟨ua, va, uc, vc, BL, SGN, HBL, HSG, h⟩ := HTT.out rfl
                    obtain ⟨nl, hnl⟩ : ∃ n, n = BL.length := ⟨_, rfl⟩
                    have hBLf : ∀ e ∈ BL, e ∈ fewP 6 := by rw [HBL.out]; exact plE_mem HLP.out.1
                    obtain ⟨g1, g2, g3, g4⟩ := sign_block2 HT.out.ok (⟨V0, W0, kw, kv, [], BL⟩ : BlkX) fun e he => (HT.out.few e (hBLf e he)).1
                    have hok : kx = 0 → blkOkB (signBlk Y (⟨V0, W0, kw, kv, [], BL⟩ : BlkX)) c (⟨V0, W0, kw, kv, [], BL⟩ : BlkX) = true := by
                      intro h0
                      obtain ⟨gz, gr⟩ := HT.out.root1
                      have e1 : (T[kx]'HKX.out) = (1, zeroBlk) := by simp only [h0]; exact gr
                      have e2 : kv = 1 := by have h1 := HKV.out; rw [keyN_eq HKX.out, e1] at h1; exact h1.symm
                      have e3 : kw = 0 := by have h1 := HKWE.out; rw [e1] at h1; exact h1.symm
                      have hb : (⟨V0, W0, kw, kv, [], BL⟩ : BlkX) = ⟨V0, W0, 0, 1, [], packV Y T 1 tip 1 LP c.bt⟩ := by rw [HBL.out, e2, e3]
                      refine plays_ok HT.out HLP.out.1 HLP.out.2.2 (by have := HBT.out; omega) tip V0 W0 (by have := HYES.out.2; have := HKW.out.1; omega) (HYES.out.1.trans HRV.out) _ hb
                    rw [← HSG.out] at g3 g4 hok
                    rw [← hnl] at h
                    have H18 := Lib.hid h
                    have HNL := Lib.hid hnl
                    have HBF := Lib.hid hBLf
                    have HSGO := Lib.hid g3
                    have HSGE := Lib.hid g4
                    have HOK := Lib.hid hok
                    have HNLL : Hid (nl ≤ 6) := by
                      show _ ≤ _
                      rw [hnl, HBL.out]
                      exact Nat.le_trans (batchN_length _ _) (Nat.le_trans (List.length_filter_le _ _) HLP.out.2.1)
                    obtain ⟨c0, c1, c2, c3, c4, c5, c6, c7⟩ := cells8 (H18.out.nth 8 rfl)
                    clear h hnl hBLf g1 g2 g3 g4 hok hyes
                    go_wp2_with fail
                    refine (pool_batch (X := SGN) c.bt SL sa SL.length sc rfl (by have := HSLL.out; omega) (fun y m' hs => (hs.front 3 rfl).getOwn.intsAt) (fun e he => fewP_wf (HLP.out.1 e he)) (fun e he => (show envB e ∈ SGN.T from HSGE.out.mem (HT.out.few e (HLP.out.1 e he)).1)) (by have := HLP.out.2.1; omega) (by have := HBT.out; omega) (by have h1 := HSGE.out.len.2; have := HT.out.xt; have := HT.out.k12; show SGN.T.length ≤ _; have h2 : SGN.T.length ≤ Y.T.length + 2 := h1; omega) rfl rfl H18.out).mono ?_
                    rintro e w18 ⟨v, rfl, h⟩
                    rw [← HSL2.out, plays_batch HT.out HLP.out.1 tip kv c.bt SGN 2 HSGE.out, ← HBL.out, HSL2.out] at h
                    obtain ⟨ba, bk_, bc2, rfl, hbk⟩ := h.getOwn.slice
                    obtain rfl := hbk.out
                    rw [← HNL.out] at h ⊢
                    have H19 := Lib.hid h
                    clear h hbk c0 c1 c2 c3 c4 c5 c6 c7
                    go_upto_region 53 with fail
                    obtain ⟨b0, b1, b2, b3, b4, b5⟩ := cells6 (H19.out.nth 1 rfl)
                    obtain ⟨q0, q1, q2⟩ := cells3 (H19.out.nth 3 rfl)
                    by_cases hk0 : kx = 0
                    · have hkb : ((kx : Int) == 0) = true := by simp [hk0]
                      have hok := HOK.out hk0
                      have HOK2 := Lib.hid hok
                      clear hk0 hok
                      go_wp2_with fail
                      refine (envs_same BL va ba vc bc2 nl HNL.out.symm (by have := HNLL.out; omega) (fun y m' hs => (show BlkAt y (⟨V0, W0, kw, kv, [], BL⟩ : BlkX) ua uc va vc from hs.memBlkV (.tail _ (.tail _ (.head _)))).envs) (fun y m' hs => hs.getOwn.envsAt) H19.out).mono ?_
                      rintro e w19 ⟨rfl, h⟩
                      have H20 := Lib.hid h
                      clear h b0 b1 b2 b3 b4 b5 q0 q1 q2
                      have hbc := H20.out.nth 9 rfl
                      have hbb := H20.out.nth 1 rfl
                      obtain ⟨k0_, k1_, k2_, k3_, k4_, k5_, k6_, k7_⟩ := cells8 hbc
                      obtain ⟨b0, b1, b2, b3, b4, b5⟩ := cells6 hbb
                      go_wp2_with fail
                      rw [HNL.out] at H20 ⊢
                      refine (blok_ok c HG.out (⟨V0, W0, kw, kv, [], BL⟩ : BlkX) ua uc va vc (fun y m' hs => hs.memBlkV (.tail _ (.tail _ (.head _)))) (fun e he => fewP_wf (HBF.out e he)) HVR.out H20.out rfl HSGO.out (show rootB ∈ SGN.T from HSGE.out.mem HT.out.root) (by have h1 := HSGE.out.len.2; have h2 : SGN.T.length ≤ Y.T.length + 2 := h1; have := HT.out.xt; have := HT.out.k12; omega)).mono ?_
                      rintro e w20 ⟨he, X2, hX2, h⟩
                      rw [HOK2.out] at he
                      subst he
                      rw [five0] at h
                      have H21 := Lib.hid h
                      clear h hX2 hbc hbb k0_ k1_ k2_ k3_ k4_ k5_ k6_ k7_ b0 b1 b2 b3 b4 b5
                      go_wp2_with fail
                      go_meet
                      case rel => exact ⟨X2, H21.out.tail.tail.tail⟩
                    · have hkb : ((kx : Int) == 0) = false := by simpa using hk0
                      clear hk0
                      go_wp2_with fail
                      refine (envs_same BL va ba vc bc2 nl HNL.out.symm (by have := HNLL.out; omega) (fun y m' hs => (show BlkAt y (⟨V0, W0, kw, kv, [], BL⟩ : BlkX) ua uc va vc from hs.memBlkV (.tail _ (.tail _ (.head _)))).envs) (fun y m' hs => hs.getOwn.envsAt) H19.out).mono ?_
                      rintro e w19 ⟨rfl, h⟩
                      have H20 := Lib.hid h
                      clear h b0 b1 b2 b3 b4 b5 q0 q1 q2
                      have hbc := H20.out.nth 9 rfl
                      have hbb := H20.out.nth 1 rfl
                      go_wp2_with fail
                      go_meet
                      case rel => exact ⟨SGN, H20.out.tail.tail.tail⟩
                case rest =>
                  obtain ⟨Y3, hq⟩ := hcut
                  have HQ := Lib.hid hq
                  clear hq
                  have Z0 := Lib.hid HQ.out.drew
                  go_upto_region 55 with fail
                  refine wp_region_tree (fun x : World => x.heap[nc]? = some (.cells #[.int .i64 c.f, .int .i64 c.n, .int .i64 c.cl, .int .i64 c.ba, .int .i64 c.mo, .int .i64 c.bt, .int .i64 c.po, .int .i64 c.wi] 23 (0, 0))) anyW [16] (.s 0 0 (some 346) (.s 1 1 (some 347) (.s 2 0 (some 348) (.s 3 0 (some 349) (.s 4 1 (some 350) (.s 5 0 (some 351) (.s 6 0 (some 352) (.s 7 0 (some 353) (.s 8 0 (some 354) (.s 9 0 (some 355) (.s 10 0 (some 356) (.b 11 2 (some 357) (.s 12 0 (some 345) (.s 13 0 (some 358) (.s 14 0 (some 359) (.s 15 2 (some 43) (.s 16 3 none (.s 17 0 (some 44) .e)))))) 15 2 (some 43) (.s 11 2 (some 357) (.s 12 0 (some 345) (.s 13 0 (some 358) (.s 14 0 (some 359) (.s 16 3 none (.s 17 0 (some 44) .e)))))))))))))))))) (by kernel_rfl) (by kernel_rfl) (fun _ _ _ d _ h => by cases d <;> exact h) (Z0.out.nth 6 rfl) anyW.i ?_
                  repeat (first | (refine trW (v := ?_) rfl rfl (by kernel_rfl) ?_ ?_; rotate_left; (focus ((intro x; go_simp); try (with_reducible rfl))); try simp only [Act.put, List.setIfInBounds_toArray, List.set_cons_zero, List.set_cons_succ]) | (refine trS (v := ?_) rfl rfl (by kernel_rfl) ?_ ?_; rotate_left; (focus (intro x hS; first | (refine (exec_row 23 _ (by rfl) nc (by rfl) _ _ _ _ hS Tryz.underlying23 rfl size8).trans ?_; with_reducible rfl) | (obtain ⟨k0, k1, k2, k3, k4, k5, k6, k7⟩ := cells8 hS; go_simp; try (with_reducible rfl)))); try simp only [Act.put, List.setIfInBounds_toArray, List.set_cons_zero, List.set_cons_succ]) | (refine trX rfl rfl (by kernel_rfl) ?_; try simp only [Act.put, List.setIfInBounds_toArray, List.set_cons_zero, List.set_cons_succ]))
                  refine trB ?_ ?_
                  · refine trL rfl rfl (fun K hK => ?_)
                    go_simp
                    go_at_call 15
                    refine (prop_make_no (c := c) (who := rv) (view := V0) (hv := 0) (hb := 100000) (ha := none) (hc := 0) (HY := []) HG.out HVR.out (HNONE.out rv) rfl Z0.out).mono ?_
                    rintro e z1 ⟨rfl, h⟩
                    have Z1 := Lib.hid h
                    clear h
                    refine hK.out _ _ anyW.i ?_ (fun _ hSt => ?_)
                    · exact Z1.out.nth 6 rfl
                    clear hSt hK K
                    try simp only [Act.put, List.setIfInBounds_toArray, List.set_cons_zero, List.set_cons_succ]
                    repeat (first | (refine trW (v := ?_) rfl rfl (by kernel_rfl) ?_ ?_; rotate_left; (focus ((intro x; go_simp); try (with_reducible rfl))); try simp only [Act.put, List.setIfInBounds_toArray, List.set_cons_zero, List.set_cons_succ]) | (refine trS (v := ?_) rfl rfl (by kernel_rfl) ?_ ?_; rotate_left; (focus (intro x hS; first | (refine (exec_row 23 _ (by rfl) nc (by rfl) _ _ _ _ hS Tryz.underlying23 rfl size8).trans ?_; with_reducible rfl) | (obtain ⟨k0, k1, k2, k3, k4, k5, k6, k7⟩ := cells8 hS; go_simp; try (with_reducible rfl)))); try simp only [Act.put, List.setIfInBounds_toArray, List.set_cons_zero, List.set_cons_succ]) | (refine trX rfl rfl (by kernel_rfl) ?_; try simp only [Act.put, List.setIfInBounds_toArray, List.set_cons_zero, List.set_cons_succ]))
                    have Z2 := Lib.hid (Z1.out.alloc (.cells #[.int .i64 0, .int .i64 0, .int .i64 0, .int .i64 0, .slice none 0 0, .slice none 0 0] 41 (0, 0)) rfl)
                    obtain ⟨n43, hnn⟩ : ∃ n, n = z1.heap.size := ⟨_, rfl⟩
                    obtain ⟨z2, hzz⟩ : ∃ x, x = z1.alloc (.cells #[.int .i64 0, .int .i64 0, .int .i64 0, .int .i64 0, .slice none 0 0, .slice none 0 0] 41 (0, 0)) := ⟨_, rfl⟩
                    rw [← hnn, ← hzz] at Z2
                    have NN2 := Lib.hid hnn
                    have HZZ2 := Lib.hid hzz
                    clear hnn hzz
                    refine trL rfl rfl (fun K hK => ?_)
                    go_simp
                    rw [← HZZ2.out, ← NN2.out]
                    refine hK.out _ _ anyW.i ?_ (fun _ hSt => ?_)
                    · exact Z2.out.nth 7 rfl
                    clear hSt hK K
                    try simp only [Act.put, List.setIfInBounds_toArray, List.set_cons_zero, List.set_cons_succ]
                    have hzz := setRow_heap z2 n43 _ #[.int .i64 0, .int .i64 0, .int .i64 0, .int .i64 0, .slice none 0 0, .slice none 0 0] _ _ Z2.out.getBlk
                    have HF := Lib.hid (Z2.out.store ((Chg.refl (· = n43) z2).row #[.int .i64 0, .int .i64 0, .int .i64 0, .int .i64 0, .slice none 0 0, .slice none 0 0]) hzz)
                    have hbb := Z2.out.getBlk
                    refine trT rfl rfl (fun K hK => ?_)
                    refine step_store_row rfl 41 _ _ rfl n43 #[.int .i64 0, .int .i64 0, .int .i64 0, .int .i64 0, .slice none 0 0, .slice none 0 0] rfl rfl _ _ hbb size6B rfl (by simp [Value.oneCell']) ?_
                    clear hbb hzz
                    refine hK.out _ _ anyW.i (fun _ => ?_)
                    clear hK K
                    try simp only [Act.put, List.setIfInBounds_toArray, List.set_cons_zero, List.set_cons_succ]
                    repeat (first | (refine trW (v := ?_) rfl rfl (by kernel_rfl) ?_ ?_; rotate_left; (focus ((intro x; go_simp); try (with_reducible rfl))); try simp only [Act.put, List.setIfInBounds_toArray, List.set_cons_zero, List.set_cons_succ]) | (refine trS (v := ?_) rfl rfl (by kernel_rfl) ?_ ?_; rotate_left; (focus (intro x hS; first | (refine (exec_row 23 _ (by rfl) nc (by rfl) _ _ _ _ hS Tryz.underlying23 rfl size8).trans ?_; with_reducible rfl) | (obtain ⟨k0, k1, k2, k3, k4, k5, k6, k7⟩ := cells8 hS; go_simp; try (with_reducible rfl)))); try simp only [Act.put, List.setIfInBounds_toArray, List.set_cons_zero, List.set_cons_succ]) | (refine trX rfl rfl (by kernel_rfl) ?_; try simp only [Act.put, List.setIfInBounds_toArray, List.set_cons_zero, List.set_cons_succ]))
                    refine trE ?_
                    go_wp2_with fail
                    refine (prop_awake _).mono ?_
                    rintro e wz ⟨rfl, hB⟩
                    have HZ := Lib.hid (HF.out.below hB)
                    clear hB
                    go_wp2_with fail
                    go_ret
                    exact ⟨rfl, Sys.memBase (W := W) HZ.out (by simp)⟩
                  · have Z1 := Lib.hid (HQ.out.alloc (.cells #[.int .i64 0, .int .i64 0, .int .i64 0, .int .i64 0, .slice none 0 0, .slice none 0 0] 41 (0, 0)) rfl).drew
                    obtain ⟨n43, hnn⟩ : ∃ n, n = wc.heap.size := ⟨_, rfl⟩
                    obtain ⟨z1, hzz⟩ : ∃ x, x = (wc.alloc (.cells #[.int .i64 0, .int .i64 0, .int .i64 0, .int .i64 0, .slice none 0 0, .slice none 0 0] 41 (0, 0))).drew := ⟨_, rfl⟩
                    rw [← hnn, ← hzz] at Z1
                    have NN1 := Lib.hid hnn
                    have HZZ1 := Lib.hid hzz
                    clear hnn hzz
                    refine trL rfl rfl (fun K hK => ?_)
                    go_simp
                    rw [← HZZ1.out, ← NN1.out]
                    refine hK.out _ _ anyW.i ?_ (fun _ hSt => ?_)
                    · exact Z1.out.nth 7 rfl
                    clear hSt hK K
                    try simp only [Act.put, List.setIfInBounds_toArray, List.set_cons_zero, List.set_cons_succ]
                    refine trL rfl rfl (fun K hK => ?_)
                    go_simp
                    go_at_call 15
                    refine (prop_make_no (c := c) (who := rv) (view := V0) (hv := 0) (hb := 100000) (ha := none) (hc := 0) (HY := []) HG.out HVR.out (HNONE.out rv) rfl Z1.out).mono ?_
                    rintro e z2 ⟨rfl, h⟩
                    have Z2 := Lib.hid h
                    clear h
                    refine hK.out _ _ anyW.i ?_ (fun _ hSt => ?_)
                    · exact Z2.out.nth 7 rfl
                    clear hSt hK K
                    try simp only [Act.put, List.setIfInBounds_toArray, List.set_cons_zero, List.set_cons_succ]
                    repeat (first | (refine trW (v := ?_) rfl rfl (by kernel_rfl) ?_ ?_; rotate_left; (focus ((intro x; go_simp); try (with_reducible rfl))); try simp only [Act.put, List.setIfInBounds_toArray, List.set_cons_zero, List.set_cons_succ]) | (refine trS (v := ?_) rfl rfl (by kernel_rfl) ?_ ?_; rotate_left; (focus (intro x hS; first | (refine (exec_row 23 _ (by rfl) nc (by rfl) _ _ _ _ hS Tryz.underlying23 rfl size8).trans ?_; with_reducible rfl) | (obtain ⟨k0, k1, k2, k3, k4, k5, k6, k7⟩ := cells8 hS; go_simp; try (with_reducible rfl)))); try simp only [Act.put, List.setIfInBounds_toArray, List.set_cons_zero, List.set_cons_succ]) | (refine trX rfl rfl (by kernel_rfl) ?_; try simp only [Act.put, List.setIfInBounds_toArray, List.set_cons_zero, List.set_cons_succ]))
                    have hzz := setRow_heap z2 n43 _ #[.int .i64 0, .int .i64 0, .int .i64 0, .int .i64 0, .slice none 0 0, .slice none 0 0] _ _ Z2.out.getBlk
                    have HF := Lib.hid (Z2.out.store ((Chg.refl (· = n43) z2).row #[.int .i64 0, .int .i64 0, .int .i64 0, .int .i64 0, .slice none 0 0, .slice none 0 0]) hzz)
                    have hbb := Z2.out.getBlk
                    refine trT rfl rfl (fun K hK => ?_)
                    refine step_store_row rfl 41 _ _ rfl n43 #[.int .i64 0, .int .i64 0, .int .i64 0, .int .i64 0, .slice none 0 0, .slice none 0 0] rfl rfl _ _ hbb size6B rfl (by simp [Value.oneCell']) ?_
                    clear hbb hzz
                    refine hK.out _ _ anyW.i (fun _ => ?_)
                    clear hK K
                    try simp only [Act.put, List.setIfInBounds_toArray, List.set_cons_zero, List.set_cons_succ]
                    repeat (first | (refine trW (v := ?_) rfl rfl (by kernel_rfl) ?_ ?_; rotate_left; (focus ((intro x; go_simp); try (with_reducible rfl))); try simp only [Act.put, List.setIfInBounds_toArray, List.set_cons_zero, List.set_cons_succ]) | (refine trS (v := ?_) rfl rfl (by kernel_rfl) ?_ ?_; rotate_left; (focus (intro x hS; first | (refine (exec_row 23 _ (by rfl) nc (by rfl) _ _ _ _ hS Tryz.underlying23 rfl size8).trans ?_; with_reducible rfl) | (obtain ⟨k0, k1, k2, k3, k4, k5, k6, k7⟩ := cells8 hS; go_simp; try (with_reducible rfl)))); try simp only [Act.put, List.setIfInBounds_toArray, List.set_cons_zero, List.set_cons_succ]) | (refine trX rfl rfl (by kernel_rfl) ?_; try simp only [Act.put, List.setIfInBounds_toArray, List.set_cons_zero, List.set_cons_succ]))
                    refine trE ?_
                    go_wp2_with fail
                    refine (prop_awake _).mono ?_
                    rintro e wz ⟨rfl, hB⟩
                    have HZ := Lib.hid (HF.out.below hB)
                    clear hB
                    go_wp2_with fail
                    go_ret
                    exact ⟨rfl, Sys.memBase (W := W) HZ.out (by simp)⟩
theorem walk (W : World) (a0 : Int) (_ : (Lit.int .i64 a0).wf = true) (a1 : Option Addr) (len1 cap1 : Nat) (z1 : List Int) (w1 : IsRow .i64 W a1 len1 cap1 z1) (a2 : Option Addr) (len2 cap2 : Nat) (z2 : List Int) (w2 : IsRow .i64 W a2 len2 cap2 z2) (a3 : Int) (_ : (Lit.int .i64 a3).wf = true) (a4 : Int) (_ : (Lit.int .i64 a4).wf = true) (a5 : Int) (_ : (Lit.int .i64 a5).wf = true) (a6 : Int) (_ : (Lit.int .i64 a6).wf = true) (a7 : Int) (_ : (Lit.int .i64 a7).wf = true) :
    Calls Tryz.prog 5 #[.int .i64 a0, .slice a1 len1 cap1, .slice a2 len2 cap2, .int .i64 a3, .int .i64 a4, .int .i64 a5, .int .i64 a6, .int .i64 a7] W fun e w' => e = .returned (.bool true) ∧ Below W.heap.size W w' := walkD.down W a0 (by assumption) a1 len1 cap1 z1 w1 a2 len2 cap2 z2 w2 a3 (by assumption) a4 (by assumption) a5 (by assumption) a6 (by assumption) a7 (by assumption)
end Go.Proofs.YtcfhkpjheemkgaaGreat.propPlays
