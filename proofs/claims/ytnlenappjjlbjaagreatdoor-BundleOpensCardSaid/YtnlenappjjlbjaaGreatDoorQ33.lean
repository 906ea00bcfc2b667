/- ref14.Digest of any item: a contract. Conditions: those of each theorem. -/
import Derived.Test.YtnlenappjjlbjaaGreatDoorQ18
import Derived.Test.YtnlenappjjlbjaaGreatDoorQ26
namespace Go.Proofs.YtnlenappjjlbjaaGreatDoor
open Go.RowKit Go.Shelf

set_option maxRecDepth 100000 in
set_option maxHeartbeats 6400000 in
theorem rdigest_bad (it:It.Item) (L:It.Loc) (w:World) (h:It.In w it L) (hv:It.vld it≠0):Calls Tryz.prog 37 #[It.agg it L] w fun e w'=>e=.returned (.tuple #[.int .u64 0,.int .i64 (It.vld it)])∧Ext w w':=by
 obtain ⟨CA,hca,hna,-,-⟩:=It.packed it L
 have HE:=Hi (rencode_any it L)
 rw [hca] at HE ⊢
 have IA:=Hi (infoItem hna)
 have H:=Hi h
 obtain ⟨er,her⟩:∃ er,It.vld it=er:=⟨_,rfl⟩
 rw [her] at HE hv ⊢
 have t0:(er != 0)=true:=by rw [bne_iff_ne];exact hv
 clear hca hna h her
 go_enter Tryz.func37,Tryz.ntmps37
 go_wp2_with (refine wpList_load_row rfl _ _ rfl w.heap.size rfl _ CA _ _ (heap_alloc_new _ _) Tryz.underlying45 rfl IA.out ?_)
 have X0:=(Ext.refl w).alloc (.cells CA 45)
 with_reducible refine (HE.out _ (H.out.ext X0)).mono ?_
 rintro e w1 ⟨hE,hb1⟩
 obtain rfl:=hE.2 hv
 have X1:=Hi (X0.trans hb1)
 clear hE hb1 X0 hv
 go_wp2_with (refine wpList_store_row rfl _ _ _ rfl w1.heap.size #[.int .i64 0,.int .i64 0,.int .i64 0,.string ⟨#[]⟩,.slice none 0 0] rfl rfl _ #[.int .i64 0,.int .i64 0,.int .i64 0,.string ⟨#[]⟩,.slice none 0 0] (heap_alloc_new _ _) (by kernel_rfl) rfl (by simp [Value.oneCell']) ?_)
 go_ret2
 exact ⟨rfl,((X1.out.alloc _).setRow X1.out.size _)⟩
set_option maxRecDepth 100000 in
set_option maxHeartbeats 6400000 in
theorem rdigest_ok (it:It.Item) (L:It.Loc) (w:World) (h:It.In w it L) (hv:It.vld it=0):Calls Tryz.prog 37 #[It.agg it L] w fun e w'=>e=.returned (.tuple #[.int .u64 (It.dg it),.int .i64 0])∧Ext w w':=by
 obtain ⟨CA,hca,hna,-,-⟩:=It.packed it L
 have HE:=Hi (rencode_any it L)
 rw [hca] at HE ⊢
 have IA:=Hi (infoItem hna)
 have H:=Hi h
 obtain ⟨hft,hlt⟩:=fits_tree h.ok hv
 have HT:Hid (∀ (M:Option Addr×Nat) (w:World),KidsAt 1000 0 2 w M (flds it)→Calls Tryz.prog 30 #[nda (tree it) M] w fun e w'=>(∃ A c,e=.returned (.tuple #[.slice A (encT 3 (tree it)).length c,.int .i64 0])∧SlU w' A (encT 3 (tree it)))∧Ext w w') :=
  Hi (fun M w hk=>renc_ok 1000 2 (by omega) (tree it) M w hk hft hlt)
 unfold It.dg
 rw [hv] at HE
 obtain ⟨E,hEE⟩:∃ E,encT 3 (tree it)=E:=⟨_,rfl⟩
 rw [hEE] at HT hlt ⊢
 clear hca hna h hv hft hEE
 go_enter Tryz.func37,Tryz.ntmps37
 go_wp2_with (refine wpList_load_row rfl _ _ rfl w.heap.size rfl _ CA _ _ (heap_alloc_new _ _) Tryz.underlying45 rfl IA.out ?_)
 have X0:=(Ext.refl w).alloc (.cells CA 45)
 with_reducible refine (HE.out _ (H.out.ext X0)).mono ?_
 rintro e w1 ⟨hE,hb1⟩
 obtain ⟨M,rfl,hK⟩:=hE.1 rfl
 obtain ⟨C4,hc4,hn4,ho4⟩:=nd_packed (tree it) M
 rw [hc4]
 obtain ⟨W4,hW4⟩:∃ W,((w1.alloc (.cells #[.int .i64 0,.int .i64 0,.int .i64 0,.string ⟨#[]⟩,.slice none 0 0] 52)).setRow w1.heap.size C4)=W:=⟨_,rfl⟩
 have B4:Hid (W4.heap[w1.heap.size]?=some (.cells C4 52 (0,0))):=Hi (by rw [← hW4];exact setRow_at (heap_alloc_new _ _))
 have E4:Ext w1 W4:=by rw [← hW4];exact ((Ext.refl _).alloc _).setRow (Nat.le_refl _) _
 have X4:=Hi ((X0.trans hb1).trans E4)
 have K4:=Hi ((hK.lower (Nat.zero_le _)).ext E4)
 have F4:=Hi (infoNode hn4)
 have S4:=Hi hn4
 have O4:=Hi ho4
 have HW4:=Hi hW4
 have HC:=Hi (HT.out M W4 K4.out)
 rw [hc4] at HC
 clear hE hb1 X0 hK hc4 hn4 ho4 hW4 E4 HE HT
 go_wp2_with (first
  | (refine wpList_store_row rfl _ _ _ rfl w1.heap.size C4 rfl rfl _ #[.int .i64 0,.int .i64 0,.int .i64 0,.string ⟨#[]⟩,.slice none 0 0] (heap_alloc_new _ _) F4.out S4.out.symm O4.out ?_;rw [HW4.out])
  | refine wpList_load_row rfl _ _ rfl w1.heap.size rfl _ C4 _ _ B4.out Tryz.underlying52 rfl F4.out ?_)
 clear HW4
 with_reducible refine HC.out.mono ?_
 rintro e w5 ⟨⟨A,c,rfl,hs⟩,hb5⟩
 have HS:=Hi (rof_dg A c E w5 hs (Nat.le_trans hlt (by decide)))
 have X5:=Hi (X4.out.trans hb5)
 clear hs hb5 HC
 generalize E.length=z at *
 go_wp2_with fail
 with_reducible refine HS.out.mono ?_
 rintro e w6 ⟨rfl,rfl⟩
 go_wp2
 go_ret2
 exact ⟨rfl,X5.out⟩
theorem rdigest_any (it:It.Item) (L:It.Loc) (w:World) (h:It.In w it L):Calls Tryz.prog 37 #[It.agg it L] w fun e w'=>e=.returned (.tuple #[.int .u64 (if It.vld it=0 then It.dg it else 0),.int .i64 (It.vld it)])∧Ext w w':=by
 by_cases hv:It.vld it=0
 · rw [if_pos hv,hv];exact rdigest_ok it L w h hv
 · rw [if_neg hv];exact rdigest_bad it L w h hv
end Go.Proofs.YtnlenappjjlbjaaGreatDoor
