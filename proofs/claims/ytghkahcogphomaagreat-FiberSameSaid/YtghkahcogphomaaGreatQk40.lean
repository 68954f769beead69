/- Fibers: a part of the walk. No condition. -/
import Derived.Test.YtghkahcogphomaaGreatQk39
set_option linter.all false
namespace Go.Proofs.YtghkahcogphomaaGreat
section
open Go.ChangeShapes Go.WideShapes Go.RowKit
variable{w w':World}{X X':List Nat}{s t:SV}{L:List BV}{x y:BV}{k:PK}
set_option maxRecDepth 100000 in
set_option maxHeartbeats 1000000 in
theorem mres_yes(w:World)(i:Nat)(ma:Option Addr)(mn mc:Nat)(ka:Option Addr)(kn kc g o tn tc:Nat)(fa la qa:Option Addr)(n fc ln lc qn qc:Nat)(hd dp:Bool)(ret:Int)(CT:Hid (∀W,Fr [] w W→Calls Tryz.prog 76 #[.agg #[.slice ka kn kc,.slice (some ⟨g,o,none⟩) tn tc]] W fun e w'=>e=.returned (.agg #[.slice fa n fc,.bool hd,.bool dp,.int .u64 ret,.slice la ln lc,.slice qa qn qc])∧Fr [] W w'))(hi:i<tn)(hc:tn≤tc)(htc:tn≤1000000)(hkn:kn≤1000000)(hmn:mn≤1000000)(hg:g<w.heap.size)(RD:Hid (∀W,Fr [] w W→W.cell? ⟨g,o+i*2,none⟩=some (.bool false)∧W.cell? ⟨g,o+i*2+1,none⟩=some (.slice ma mn mc)))(pre pre2 ts:List Value)(hpre:pre.length=kn*6)(hpre2:pre2.length=mn*6)(hts:ts.length=tn*2)(NW:Hid (∀W,Fr [] w W→kn=0∨∃ad,ka=some ad∧∀j u,pre[j]? =some u→W.cell? (ad.add j)=some u))(NW2:Hid (∀W,Fr [] w W→mn=0∨∃ad,ma=some ad∧∀j u,pre2[j]? =some u→W.cell? (ad.add j)=some u))(NW3:Hid (∀W,Fr [] w W→tn=0∨∃ad,(some ⟨g,o,none⟩:Option Addr)=some ad∧∀j u,ts[j]? =some u→W.cell? (ad.add j)=some u))(ONE:Hid ((∀u,u∈pre→u.oneCell'=true)∧(∀u,u∈pre2→u.oneCell'=true)∧∀u,u∈ts→u.oneCell'=true))(kk:Nat)(hkk:kk=if hd=false∧n=0∧1<kn then kn-1 else kn):
 Calls Tryz.prog 39 #[.agg #[.slice ka kn kc,.slice (some ⟨g,o,none⟩) tn tc],.int .i64 (i:Int)] w fun e w'=> ∃(g1 c1 g2 c2:Nat),e=.returned (.tuple #[.agg #[.slice (some ⟨g1,0,none⟩) (kk+mn) c1,.slice (some ⟨g2,0,none⟩) tn c2],.int .i64 0])∧w'.ownsRow w.heap.size 117 6 (.slice (some ⟨g1,0,none⟩) (kk+mn) c1) (kk+mn) (pre.take (kk*6)++pre2)∧w'.ownsRow w.heap.size 127 2 (.slice (some ⟨g2,0,none⟩) tn c2) tn ((ts.set (i*2) (.bool true)).set (i*2+1) (.slice none 0 0))∧Fr [] w w':=by
 obtain⟨i0,hii,hz0,hz1,hz2⟩:=info_parts info_t20b;have II:=Lib.hid hii;have Z0:=Lib.hid hz0;have Z1:=Lib.hid hz1;have Z2:=Lib.hid hz2;have HPR:=Lib.hid hpre;have HPR2:=Lib.hid hpre2;have HTS:=Lib.hid hts;have HKK:=Lib.hid hkk;obtain⟨i1,hii1,hz01,hz11,hz21⟩:=info_parts info_t20r;have IR:=Lib.hid hii1;have Y0:=Lib.hid hz01;have Y1:=Lib.hid hz11;have Y2:=Lib.hid hz21;clear hii1 hz01 hz11 hz21;clear hii hz0 hz1 hz2 hpre hpre2 hts hkk;obtain⟨W3,hW3⟩: ∃W,W=((w.alloc (.cells #[.slice ka kn kc,.slice (some ⟨g,o,none⟩) tn tc] 40)).alloc (.cells #[.slice none 0 0,.slice none 0 0] 40)):=⟨_,rfl⟩;have FW3:Hid (Fr [] w W3):=Lib.hid (by rw[hW3];exact(((Fr.refl _ _).alloc _).alloc _));have PW30:Hid (blk W3 (w.heap.size)=some (.cells #[.slice ka kn kc,.slice (some ⟨g,o,none⟩) tn tc] 40 (0,0))):=Lib.hid (by rw[hW3];simp only[zB,zC];rw[if_neg (by omega),if_pos trivial]);have PW31:Hid (blk W3 (w.heap.size+1)=some (.cells #[.slice none 0 0,.slice none 0 0] 40 (0,0))):=Lib.hid (by rw[hW3];simp only[zB,zC];rw[if_pos trivial]);obtain⟨pb,hpb⟩: ∃pb,pb=w.heap.size:=⟨_,rfl⟩;have HPB:=Lib.hid hpb;rw[←hpb]at PW30;rw[←hpb]at PW31;have HSZ:Hid (W3.heap.size=pb+1+1):=Lib.hid (by rw[hW3];simp only[zC];omega);go_enter Tryz.func39,Tryz.ntmps39;go_upto_region 1 with fail
 rw[←hW3]
 try rw[←hpb]
 clear hW3 hpb;have p0:=zA PW30.out (i:=0) rfl;have p1:=zA PW30.out (i:=1) rfl;have pf0:=zE PW30.out (i:=0);have pf1:=zE PW30.out (i:=1);have b0:decide ((i:Int)<0)=false:=by simp
 have b1:decide ((tn:Int)≤(i:Int))=false:=by simp;omega
 obtain⟨rd,_⟩:=RD.out _ FW3.out;have OW1:Hid ((W3.alloc (.cells #[] 117)).ownsRow W3.heap.size 117 6 (.slice (some ⟨W3.heap.size,0,none⟩) 0 0) 0 []):=Lib.hid (own_mk (cur:= #[]) (by rw[zB,if_pos rfl]) (Nat.le_refl _) (Nat.le_refl _) (Nat.zero_le _) rfl rfl);have FA1:=Lib.hid ((Fr.refl [] W3).alloc (.cells #[] 117));have NW1:=Lib.hid (NW.out _ (FW3.out.trans FA1.out (by simp)));have hkl:=zF PW30.out;have hkn1:pb≠W3.heap.size:=by omega
 go_upto_region 6 with(at_builtin;refine zQ _ rfl _ _ _ rfl W3.heap.size 117 i0 (.agg #[.slice none 0 0,.bool false,.bool false,.int .u64 0,.slice none 0 0,.slice none 0 0]) 6 96 Tryz.underlying37 II.out Z0.out Z1.out Z2.out rfl (by decide) W3.heap.size 0 0 [] rfl OW1.out ka kn kc pre rfl HPR.out NW1.out ONE.out.1 (by unfold maxLen;omega) (by omega) FA1.out.size ?_;intro g5 c5 w5' own5 fr5 at5;rw[Nat.zero_add,List.nil_append]at own5;rw[Nat.zero_add];have OR1:=Lib.hid own5;have FB1:=Lib.hid (FA1.out.trans fr5 (fun x hx=> .inr (by simp only[List.mem_singleton]at hx;omega)));clear own5 fr5 at5 OW1 FA1)
 clear p0 p1 pf0 pf1 rd b0 b1 hkl hkn1;have H5:Hid (Fr [] w w5'):=Lib.hid (FW3.out.trans FB1.out (by simp));have PK5:=Lib.hid (FB1.out.at PW30.out (by simp));have k0:=zA PK5.out (i:=0) rfl;have k1:=zA PK5.out (i:=1) rfl;go_upto_region 7 with(go_at_call 76;refine(CT.out _ H5.out).mono ?_;rintro e w4 ⟨rfl,hF4⟩;have G4:=Lib.hid hF4;clear hF4 k0 k1)
 obtain⟨W6,hW6⟩: ∃W,W=w4.alloc (.cells #[.slice fa n fc,.bool hd,.bool dp,.int .u64 ret,.slice la ln lc,.slice qa qn qc] 117):=⟨_,rfl⟩;obtain⟨kf,hkf⟩: ∃k,k=w4.heap.size:=⟨_,rfl⟩;have G6:Hid (Fr [] w5' W6):=Lib.hid (by rw[hW6];exact G4.out.alloc _);have H6:Hid (Fr [] w W6):=Lib.hid (H5.out.trans G6.out (by simp));have PF6:Hid (blk W6 kf=some (.cells #[.slice fa n fc,.bool hd,.bool dp,.int .u64 ret,.slice la ln lc,.slice qa qn qc] 117 (0,0))):=Lib.hid (by rw[hW6,hkf,zB,if_pos rfl]);have PK6:=Lib.hid (G6.out.at PK5.out (by simp));have PR6:=Lib.hid (G6.out.at (FB1.out.at PW31.out (by simp)) (by simp));have OR6:Hid (W6.ownsRow W3.heap.size 117 6 (.slice (some ⟨g5,0,none⟩) kn c5) kn pre):=Lib.hid (zL OR1.out G6.out (by simp));rw[←hW6]
 try rw[←hkf]
 have FB1z:=FB1;have G6z:=G6;clear hW6 hkf CT PW30 PW31 G6 OR1 FB1 H5 G4 PK5;have f0:=zA PF6.out (i:=0) rfl;have f1:=zA PF6.out (i:=1) rfl;have f2:=zA PF6.out (i:=2) rfl;have f3:=zA PF6.out (i:=3) rfl;have f4:=zA PF6.out (i:=4) rfl;have f5:=zA PF6.out (i:=5) rfl;cases hd with
 |true=>
  have ek:kk=kn:=by rw[HKK.out,if_neg (by simp)]
  have OT:Hid (W6.ownsRow W3.heap.size 117 6 (.slice (some ⟨g5,0,none⟩) kn c5) kn (pre.take (kn*6))):=Lib.hid (by rw[List.take_of_length_le (by rw[HPR.out];exact Nat.le_refl _)];exact OR6.out);clear OR6;have EK:=Lib.hid ek;clear ek;go_upto_region 9 with fail
  have k0:=zA PK6.out (i:=0) rfl;have k1:=zA PK6.out (i:=1) rfl;have kf0:=zE PK6.out (i:=0);obtain⟨_,rd⟩:=RD.out _ H6.out;have NWB:=Lib.hid (NW2.out _ H6.out);have hgb:=zN OT.out;have hsz3:=HSZ.out;have hne5:pb≠g5:=by omega
  have hne6:pb+1≠g5:=by omega
  have h36:=Lib.hid (Nat.le_trans FB1z.out.size G6z.out.size);go_upto_region 10 with(at_builtin;refine zQ _ rfl _ _ _ rfl W3.heap.size 117 i0 (.agg #[.slice none 0 0,.bool false,.bool false,.int .u64 0,.slice none 0 0,.slice none 0 0]) 6 96 Tryz.underlying37 II.out Z0.out Z1.out Z2.out rfl (by decide) g5 c5 kn (pre.take (kn*6)) rfl OT.out ma mn mc pre2 rfl HPR2.out NWB.out ONE.out.2.1 (by unfold maxLen;omega) (by omega) h36.out ?_;intro g7 c7 w7 own7 fr7 at7;have OR7:=Lib.hid own7;have F7:=Lib.hid fr7;have A7:=Lib.hid at7;clear own7 fr7 at7;have PK7:=Lib.hid (F7.out.at PK6.out (by simp;omega));have k0:=zA PK7.out (i:=0) rfl;have k1:=zA PK7.out (i:=1) rfl;have kf0:=zE PK7.out (i:=0))
  obtain⟨W8,hW8⟩: ∃W,W=w7.setCell ⟨pb,0,none⟩ (.slice (some ⟨g7,0,none⟩) (kn+mn) c7):=⟨_,rfl⟩;rw[←hW8]
  have hg7:pb≠g7∧pb+1≠g7:=by
   rcases A7.out with h|h
   ·rw[h];exact⟨hne5,hne6⟩
   ·have:=zF PR6.out;omega
  have F8:Hid (Fr [pb] w7 W8):=Lib.hid (by rw[hW8];exact(Fr.refl [pb] w7).setCell (.inl (by simp)) _);have PK8:Hid (blk W8 pb=some (.cells #[.slice (some ⟨g7,0,none⟩) (kn+mn) c7,.slice (some ⟨g,o,none⟩) tn tc] 40 (0,0))):=Lib.hid (by rw[hW8,zD,if_pos rfl,PK7.out];rfl);have PR8:=Lib.hid (F8.out.at (F7.out.at PR6.out (by simp;omega)) (by simp))
  have OR8:=Lib.hid (zL OR7.out F8.out (by
   intro q hq;have:g7=q:=by simpa[Value.ownBlock]using hq
   subst this
   simp;omega))
  have H8:Hid (Fr [] w W8):=Lib.hid ((H6.out.trans F7.out (by intro x hx;simp at hx;have:=HPB.out;right;omega)).trans F8.out (by intro x hx;simp at hx;have:=HPB.out;right;omega));have hps8:=zF PR8.out;clear hW8 k0 k1 kf0 rd NWB F7 A7 OR7 PK7 OT F8;have OW2:Hid ((W8.alloc (.cells #[] 127)).ownsRow W8.heap.size 127 2 (.slice (some ⟨W8.heap.size,0,none⟩) 0 0) 0 []):=Lib.hid (own_mk (cur:= #[]) (by rw[zB,if_pos rfl]) (Nat.le_refl _) (Nat.le_refl _) (Nat.zero_le _) rfl rfl);have FA2:=Lib.hid ((Fr.refl [] W8).alloc (.cells #[] 127));have PK9:=Lib.hid (FA2.out.at PK8.out (by simp));have k1:=zA PK9.out (i:=1) rfl;have k18:=zA PK8.out (i:=1) rfl;have NW4:=Lib.hid (NW3.out _ (H8.out.trans FA2.out (by simp)));have hkl8:=zF PK8.out;have hkn8:pb≠W8.heap.size:=by omega
  go_upto_region 11 with(at_builtin;refine zQ _ rfl _ _ _ rfl W8.heap.size 127 i1 (.agg #[.bool false,.slice none 0 0]) 2 32 Tryz.underlying38 IR.out Y0.out Y1.out Y2.out rfl (by decide) W8.heap.size 0 0 [] rfl OW2.out (some ⟨g,o,none⟩) tn tc ts rfl HTS.out NW4.out ONE.out.2.2 (by unfold maxLen;omega) (by omega) FA2.out.size ?_;intro g9 c9 w9 own9 fr9 at9;rw[Nat.zero_add,List.nil_append]at own9;rw[Nat.zero_add];have OR9:=Lib.hid own9;have FB9:Hid (Fr [] W8 w9):=Lib.hid (FA2.out.trans fr9 (fun x hx=> .inr (by simp only[List.mem_singleton]at hx;omega)));clear own9 fr9 at9 OW2 FA2 NW4)
  have hb9:=zN OR9.out;have hl9:=own_lt OR9.out;obtain⟨u0,hu0⟩: ∃u,ts[i*2]? =some u:=⟨ts[i*2]'(by rw[HTS.out];omega),by simp⟩;obtain⟨u1,hu1⟩: ∃u,ts[i*2+1]? =some u:=⟨ts[i*2+1]'(by rw[HTS.out];omega),by simp⟩;have d0:=zX OR9.out hu0;have d1:=zX OR9.out hu1;have df0:=zf OR9.out (i*2);have df1:=zf OR9.out (i*2+1);have hcp9:=(ZC OR9.out).1;clear hu0 hu1 k1 k18;go_upto_region 12 with fail
  obtain⟨W10,hW10⟩: ∃W,W=(w9.setCell ⟨g9,i*2,none⟩ (.bool true)).setCell ⟨g9,i*2+1,none⟩ (.slice none 0 0):=⟨_,rfl⟩;rw[←hW10];have OR10:Hid (W10.ownsRow W8.heap.size 127 2 (.slice (some ⟨g9,0,none⟩) tn c9) tn ((ts.set (i*2) (.bool true)).set (i*2+1) (.slice none 0 0))):=Lib.hid (by rw[hW10];exact zg (zg OR9.out _ _) _ _);have F10:Hid (Fr [g9] w9 W10):=Lib.hid (by rw[hW10];exact((Fr.refl [g9] w9).setCell (.inl (by simp)) _).setCell (.inl (by simp)) _);have PK10:=Lib.hid (F10.out.at (FB9.out.at PK8.out (by simp)) (by simp;omega));have PR10:=Lib.hid (F10.out.at (FB9.out.at PR8.out (by simp)) (by have:=zF PR8.out;simp;omega))
  have OR8b:=Lib.hid (zL (zL OR8.out FB9.out (by simp)) F10.out (by
   intro q hq;have:g7=q:=by simpa[Value.ownBlock]using hq
   subst this;have:=own_lt OR8.out
   simp;omega))
  have H10:Hid (Fr [] w W10):=Lib.hid ((H8.out.trans FB9.out (by simp)).trans F10.out (by intro x hx;simp at hx;have:=H8.out.size;right;omega));have hsw8:=H8.out.size;clear hW10 d0 d1 df0 df1 OR9 FB9 F10 OR8 PK8 PR8 PK9;have k0:=zA PK10.out (i:=0) rfl;have k1:=zA PK10.out (i:=1) rfl;have kf1:=zE PK10.out (i:=1);go_upto_region 13 with fail
  obtain⟨W11,hW11⟩: ∃W,W=W10.setCell ⟨pb,1,none⟩ (.slice (some ⟨g9,0,none⟩) tn c9):=⟨_,rfl⟩;rw[←hW11];have PK11:Hid (blk W11 pb=some (.cells #[.slice (some ⟨g7,0,none⟩) (kn+mn) c7,.slice (some ⟨g9,0,none⟩) tn c9] 40 (0,0))):=Lib.hid (by rw[hW11,zD,if_pos rfl,PK10.out];rfl);have F11:Hid (Fr [pb] W10 W11):=Lib.hid (by rw[hW11];exact(Fr.refl [pb] W10).setCell (.inl (by simp)) _);have PR11:=Lib.hid (F11.out.at PR10.out (by simp));clear hW11 k0 k1 kf1;have k0:=zA PK11.out (i:=0) rfl;have k1:=zA PK11.out (i:=1) rfl;have r0:=zA PR11.out (i:=0) rfl;have r1:=zA PR11.out (i:=1) rfl;have rf0:=zE PR11.out (i:=0);have rf1:=zE PR11.out (i:=1);go_wp2;refine bodyPost_ret (ze rfl _ _ (pb+1) _ rfl (by rw[zD,if_pos rfl,zD,if_pos rfl,PR11.out];rfl) rfl zO zR) rfl ?_;have hF2: ∀W',Fr [pb+1] W11 W'→Fr [pb,pb+1] W10 W':=fun W' h=>(F11.out.mono (by simp)).trans h (by simp)
  have hp:=HPB.out;have hb10:=zN OR10.out;rw[EK.out];refine⟨g7,c7,g9,c9,rfl,zr (zL OR8b.out (hF2 _ (((Fr.refl [pb+1] W11).setCell (.inl (by simp)) _).setCell (.inl (by simp)) _)) ?_) (by omega),zr (zL OR10.out (hF2 _ (((Fr.refl [pb+1] W11).setCell (.inl (by simp)) _).setCell (.inl (by simp)) _)) ?_) (by omega),H10.out.trans (hF2 _ (((Fr.refl [pb+1] W11).setCell (.inl (by simp)) _).setCell (.inl (by simp)) _)) (by intro x hx;simp at hx;right;omega)⟩
  ·intro q hq;have:g7=q:=by simpa[Value.ownBlock]using hq
   subst this
   simp;omega
  ·intro q hq;have:g9=q:=by simpa[Value.ownBlock]using hq
   subst this
   simp;omega
 |false=>
  by_cases hn:n=0
  ·subst hn;by_cases hk1:1<kn
   ·have c1:decide (1<(kn:Int))=true:=by simp;omega
    have ek0:Hid (kk=kn-1):=Lib.hid (by rw[HKK.out,if_pos ⟨rfl,rfl,hk1⟩]);go_upto_region 8 with fail
    have OC:=ZC OR6.out;obtain⟨hcp1,hcp2⟩:=OC;unfold maxLen at hcp2;obtain⟨j,hj⟩: ∃j,kn=j+1:=⟨kn-1,by omega⟩;subst hj;have ek:kk=j:=by rw[ek0.out];omega
    have OT:=Lib.hid (own_cut OR6.out j (by omega));have EK:=Lib.hid ek;clear ek;go_upto_region 9 with fail
    have k0:=zA PK6.out (i:=0) rfl;have k1:=zA PK6.out (i:=1) rfl;have kf0:=zE PK6.out (i:=0);obtain⟨_,rd⟩:=RD.out _ H6.out;have NWB:=Lib.hid (NW2.out _ H6.out);have hgb:=zN OT.out;have hsz3:=HSZ.out;have hne5:pb≠g5:=by omega
    have hne6:pb+1≠g5:=by omega
    have h36:=Lib.hid (Nat.le_trans FB1z.out.size G6z.out.size);go_upto_region 10 with(at_builtin;refine zQ _ rfl _ _ _ rfl W3.heap.size 117 i0 (.agg #[.slice none 0 0,.bool false,.bool false,.int .u64 0,.slice none 0 0,.slice none 0 0]) 6 96 Tryz.underlying37 II.out Z0.out Z1.out Z2.out rfl (by decide) g5 c5 j (pre.take (j*6)) rfl OT.out ma mn mc pre2 rfl HPR2.out NWB.out ONE.out.2.1 (by unfold maxLen;omega) (by omega) h36.out ?_;intro g7 c7 w7 own7 fr7 at7;have OR7:=Lib.hid own7;have F7:=Lib.hid fr7;have A7:=Lib.hid at7;clear own7 fr7 at7;have PK7:=Lib.hid (F7.out.at PK6.out (by simp;omega));have k0:=zA PK7.out (i:=0) rfl;have k1:=zA PK7.out (i:=1) rfl;have kf0:=zE PK7.out (i:=0))
    obtain⟨W8,hW8⟩: ∃W,W=w7.setCell ⟨pb,0,none⟩ (.slice (some ⟨g7,0,none⟩) (j+mn) c7):=⟨_,rfl⟩;rw[←hW8]
    have hg7:pb≠g7∧pb+1≠g7:=by
     rcases A7.out with h|h
     ·rw[h];exact⟨hne5,hne6⟩
     ·have:=zF PR6.out;omega
    have F8:Hid (Fr [pb] w7 W8):=Lib.hid (by rw[hW8];exact(Fr.refl [pb] w7).setCell (.inl (by simp)) _);have PK8:Hid (blk W8 pb=some (.cells #[.slice (some ⟨g7,0,none⟩) (j+mn) c7,.slice (some ⟨g,o,none⟩) tn tc] 40 (0,0))):=Lib.hid (by rw[hW8,zD,if_pos rfl,PK7.out];rfl);have PR8:=Lib.hid (F8.out.at (F7.out.at PR6.out (by simp;omega)) (by simp))
    have OR8:=Lib.hid (zL OR7.out F8.out (by
     intro q hq;have:g7=q:=by simpa[Value.ownBlock]using hq
     subst this
     simp;omega))
    have H8:Hid (Fr [] w W8):=Lib.hid ((H6.out.trans F7.out (by intro x hx;simp at hx;have:=HPB.out;right;omega)).trans F8.out (by intro x hx;simp at hx;have:=HPB.out;right;omega));have hps8:=zF PR8.out;clear hW8 k0 k1 kf0 rd NWB F7 A7 OR7 PK7 OT F8;have OW2:Hid ((W8.alloc (.cells #[] 127)).ownsRow W8.heap.size 127 2 (.slice (some ⟨W8.heap.size,0,none⟩) 0 0) 0 []):=Lib.hid (own_mk (cur:= #[]) (by rw[zB,if_pos rfl]) (Nat.le_refl _) (Nat.le_refl _) (Nat.zero_le _) rfl rfl);have FA2:=Lib.hid ((Fr.refl [] W8).alloc (.cells #[] 127));have PK9:=Lib.hid (FA2.out.at PK8.out (by simp));have k1:=zA PK9.out (i:=1) rfl;have k18:=zA PK8.out (i:=1) rfl;have NW4:=Lib.hid (NW3.out _ (H8.out.trans FA2.out (by simp)));have hkl8:=zF PK8.out;have hkn8:pb≠W8.heap.size:=by omega
    go_upto_region 11 with(at_builtin;refine zQ _ rfl _ _ _ rfl W8.heap.size 127 i1 (.agg #[.bool false,.slice none 0 0]) 2 32 Tryz.underlying38 IR.out Y0.out Y1.out Y2.out rfl (by decide) W8.heap.size 0 0 [] rfl OW2.out (some ⟨g,o,none⟩) tn tc ts rfl HTS.out NW4.out ONE.out.2.2 (by unfold maxLen;omega) (by omega) FA2.out.size ?_;intro g9 c9 w9 own9 fr9 at9;rw[Nat.zero_add,List.nil_append]at own9;rw[Nat.zero_add];have OR9:=Lib.hid own9;have FB9:Hid (Fr [] W8 w9):=Lib.hid (FA2.out.trans fr9 (fun x hx=> .inr (by simp only[List.mem_singleton]at hx;omega)));clear own9 fr9 at9 OW2 FA2 NW4)
    have hb9:=zN OR9.out;have hl9:=own_lt OR9.out;obtain⟨u0,hu0⟩: ∃u,ts[i*2]? =some u:=⟨ts[i*2]'(by rw[HTS.out];omega),by simp⟩;obtain⟨u1,hu1⟩: ∃u,ts[i*2+1]? =some u:=⟨ts[i*2+1]'(by rw[HTS.out];omega),by simp⟩;have d0:=zX OR9.out hu0;have d1:=zX OR9.out hu1;have df0:=zf OR9.out (i*2);have df1:=zf OR9.out (i*2+1);have hcp9:=(ZC OR9.out).1;clear hu0 hu1 k1 k18;go_upto_region 12 with fail
    obtain⟨W10,hW10⟩: ∃W,W=(w9.setCell ⟨g9,i*2,none⟩ (.bool true)).setCell ⟨g9,i*2+1,none⟩ (.slice none 0 0):=⟨_,rfl⟩;rw[←hW10];have OR10:Hid (W10.ownsRow W8.heap.size 127 2 (.slice (some ⟨g9,0,none⟩) tn c9) tn ((ts.set (i*2) (.bool true)).set (i*2+1) (.slice none 0 0))):=Lib.hid (by rw[hW10];exact zg (zg OR9.out _ _) _ _);have F10:Hid (Fr [g9] w9 W10):=Lib.hid (by rw[hW10];exact((Fr.refl [g9] w9).setCell (.inl (by simp)) _).setCell (.inl (by simp)) _);have PK10:=Lib.hid (F10.out.at (FB9.out.at PK8.out (by simp)) (by simp;omega));have PR10:=Lib.hid (F10.out.at (FB9.out.at PR8.out (by simp)) (by have:=zF PR8.out;simp;omega))
    have OR8b:=Lib.hid (zL (zL OR8.out FB9.out (by simp)) F10.out (by
     intro q hq;have:g7=q:=by simpa[Value.ownBlock]using hq
     subst this;have:=own_lt OR8.out
     simp;omega))
    have H10:Hid (Fr [] w W10):=Lib.hid ((H8.out.trans FB9.out (by simp)).trans F10.out (by intro x hx;simp at hx;have:=H8.out.size;right;omega));have hsw8:=H8.out.size;clear hW10 d0 d1 df0 df1 OR9 FB9 F10 OR8 PK8 PR8 PK9;have k0:=zA PK10.out (i:=0) rfl;have k1:=zA PK10.out (i:=1) rfl;have kf1:=zE PK10.out (i:=1);go_upto_region 13 with fail
    obtain⟨W11,hW11⟩: ∃W,W=W10.setCell ⟨pb,1,none⟩ (.slice (some ⟨g9,0,none⟩) tn c9):=⟨_,rfl⟩;rw[←hW11];have PK11:Hid (blk W11 pb=some (.cells #[.slice (some ⟨g7,0,none⟩) (j+mn) c7,.slice (some ⟨g9,0,none⟩) tn c9] 40 (0,0))):=Lib.hid (by rw[hW11,zD,if_pos rfl,PK10.out];rfl);have F11:Hid (Fr [pb] W10 W11):=Lib.hid (by rw[hW11];exact(Fr.refl [pb] W10).setCell (.inl (by simp)) _);have PR11:=Lib.hid (F11.out.at PR10.out (by simp));clear hW11 k0 k1 kf1;have k0:=zA PK11.out (i:=0) rfl;have k1:=zA PK11.out (i:=1) rfl;have r0:=zA PR11.out (i:=0) rfl;have r1:=zA PR11.out (i:=1) rfl;have rf0:=zE PR11.out (i:=0);have rf1:=zE PR11.out (i:=1);go_wp2;refine bodyPost_ret (ze rfl _ _ (pb+1) _ rfl (by rw[zD,if_pos rfl,zD,if_pos rfl,PR11.out];rfl) rfl zO zR) rfl ?_;have hF2: ∀W',Fr [pb+1] W11 W'→Fr [pb,pb+1] W10 W':=fun W' h=>(F11.out.mono (by simp)).trans h (by simp)
    have hp:=HPB.out;have hb10:=zN OR10.out;rw[EK.out];refine⟨g7,c7,g9,c9,rfl,zr (zL OR8b.out (hF2 _ (((Fr.refl [pb+1] W11).setCell (.inl (by simp)) _).setCell (.inl (by simp)) _)) ?_) (by omega),zr (zL OR10.out (hF2 _ (((Fr.refl [pb+1] W11).setCell (.inl (by simp)) _).setCell (.inl (by simp)) _)) ?_) (by omega),H10.out.trans (hF2 _ (((Fr.refl [pb+1] W11).setCell (.inl (by simp)) _).setCell (.inl (by simp)) _)) (by intro x hx;simp at hx;right;omega)⟩
    ·intro q hq;have:g7=q:=by simpa[Value.ownBlock]using hq
     subst this
     simp;omega
    ·intro q hq;have:g9=q:=by simpa[Value.ownBlock]using hq
     subst this
     simp;omega
   ·have c1:decide (1<(kn:Int))=false:=by simp;omega
    have ek:kk=kn:=by rw[HKK.out,if_neg (by simp;omega)]
    have OT:Hid (W6.ownsRow W3.heap.size 117 6 (.slice (some ⟨g5,0,none⟩) kn c5) kn (pre.take (kn*6))):=Lib.hid (by rw[List.take_of_length_le (by rw[HPR.out];exact Nat.le_refl _)];exact OR6.out);clear OR6;have EK:=Lib.hid ek;clear ek;go_upto_region 9 with fail
    have k0:=zA PK6.out (i:=0) rfl;have k1:=zA PK6.out (i:=1) rfl;have kf0:=zE PK6.out (i:=0);obtain⟨_,rd⟩:=RD.out _ H6.out;have NWB:=Lib.hid (NW2.out _ H6.out);have hgb:=zN OT.out;have hsz3:=HSZ.out;have hne5:pb≠g5:=by omega
    have hne6:pb+1≠g5:=by omega
    have h36:=Lib.hid (Nat.le_trans FB1z.out.size G6z.out.size);go_upto_region 10 with(at_builtin;refine zQ _ rfl _ _ _ rfl W3.heap.size 117 i0 (.agg #[.slice none 0 0,.bool false,.bool false,.int .u64 0,.slice none 0 0,.slice none 0 0]) 6 96 Tryz.underlying37 II.out Z0.out Z1.out Z2.out rfl (by decide) g5 c5 kn (pre.take (kn*6)) rfl OT.out ma mn mc pre2 rfl HPR2.out NWB.out ONE.out.2.1 (by unfold maxLen;omega) (by omega) h36.out ?_;intro g7 c7 w7 own7 fr7 at7;have OR7:=Lib.hid own7;have F7:=Lib.hid fr7;have A7:=Lib.hid at7;clear own7 fr7 at7;have PK7:=Lib.hid (F7.out.at PK6.out (by simp;omega));have k0:=zA PK7.out (i:=0) rfl;have k1:=zA PK7.out (i:=1) rfl;have kf0:=zE PK7.out (i:=0))
    obtain⟨W8,hW8⟩: ∃W,W=w7.setCell ⟨pb,0,none⟩ (.slice (some ⟨g7,0,none⟩) (kn+mn) c7):=⟨_,rfl⟩;rw[←hW8]
    have hg7:pb≠g7∧pb+1≠g7:=by
     rcases A7.out with h|h
     ·rw[h];exact⟨hne5,hne6⟩
     ·have:=zF PR6.out;omega
    have F8:Hid (Fr [pb] w7 W8):=Lib.hid (by rw[hW8];exact(Fr.refl [pb] w7).setCell (.inl (by simp)) _);have PK8:Hid (blk W8 pb=some (.cells #[.slice (some ⟨g7,0,none⟩) (kn+mn) c7,.slice (some ⟨g,o,none⟩) tn tc] 40 (0,0))):=Lib.hid (by rw[hW8,zD,if_pos rfl,PK7.out];rfl);have PR8:=Lib.hid (F8.out.at (F7.out.at PR6.out (by simp;omega)) (by simp))
    have OR8:=Lib.hid (zL OR7.out F8.out (by
     intro q hq;have:g7=q:=by simpa[Value.ownBlock]using hq
     subst this
     simp;omega))
    have H8:Hid (Fr [] w W8):=Lib.hid ((H6.out.trans F7.out (by intro x hx;simp at hx;have:=HPB.out;right;omega)).trans F8.out (by intro x hx;simp at hx;have:=HPB.out;right;omega));have hps8:=zF PR8.out;clear hW8 k0 k1 kf0 rd NWB F7 A7 OR7 PK7 OT F8;have OW2:Hid ((W8.alloc (.cells #[] 127)).ownsRow W8.heap.size 127 2 (.slice (some ⟨W8.heap.size,0,none⟩) 0 0) 0 []):=Lib.hid (own_mk (cur:= #[]) (by rw[zB,if_pos rfl]) (Nat.le_refl _) (Nat.le_refl _) (Nat.zero_le _) rfl rfl);have FA2:=Lib.hid ((Fr.refl [] W8).alloc (.cells #[] 127));have PK9:=Lib.hid (FA2.out.at PK8.out (by simp));have k1:=zA PK9.out (i:=1) rfl;have k18:=zA PK8.out (i:=1) rfl;have NW4:=Lib.hid (NW3.out _ (H8.out.trans FA2.out (by simp)));have hkl8:=zF PK8.out;have hkn8:pb≠W8.heap.size:=by omega
    go_upto_region 11 with(at_builtin;refine zQ _ rfl _ _ _ rfl W8.heap.size 127 i1 (.agg #[.bool false,.slice none 0 0]) 2 32 Tryz.underlying38 IR.out Y0.out Y1.out Y2.out rfl (by decide) W8.heap.size 0 0 [] rfl OW2.out (some ⟨g,o,none⟩) tn tc ts rfl HTS.out NW4.out ONE.out.2.2 (by unfold maxLen;omega) (by omega) FA2.out.size ?_;intro g9 c9 w9 own9 fr9 at9;rw[Nat.zero_add,List.nil_append]at own9;rw[Nat.zero_add];have OR9:=Lib.hid own9;have FB9:Hid (Fr [] W8 w9):=Lib.hid (FA2.out.trans fr9 (fun x hx=> .inr (by simp only[List.mem_singleton]at hx;omega)));clear own9 fr9 at9 OW2 FA2 NW4)
    have hb9:=zN OR9.out;have hl9:=own_lt OR9.out;obtain⟨u0,hu0⟩: ∃u,ts[i*2]? =some u:=⟨ts[i*2]'(by rw[HTS.out];omega),by simp⟩;obtain⟨u1,hu1⟩: ∃u,ts[i*2+1]? =some u:=⟨ts[i*2+1]'(by rw[HTS.out];omega),by simp⟩;have d0:=zX OR9.out hu0;have d1:=zX OR9.out hu1;have df0:=zf OR9.out (i*2);have df1:=zf OR9.out (i*2+1);have hcp9:=(ZC OR9.out).1;clear hu0 hu1 k1 k18;go_upto_region 12 with fail
    obtain⟨W10,hW10⟩: ∃W,W=(w9.setCell ⟨g9,i*2,none⟩ (.bool true)).setCell ⟨g9,i*2+1,none⟩ (.slice none 0 0):=⟨_,rfl⟩;rw[←hW10];have OR10:Hid (W10.ownsRow W8.heap.size 127 2 (.slice (some ⟨g9,0,none⟩) tn c9) tn ((ts.set (i*2) (.bool true)).set (i*2+1) (.slice none 0 0))):=Lib.hid (by rw[hW10];exact zg (zg OR9.out _ _) _ _);have F10:Hid (Fr [g9] w9 W10):=Lib.hid (by rw[hW10];exact((Fr.refl [g9] w9).setCell (.inl (by simp)) _).setCell (.inl (by simp)) _);have PK10:=Lib.hid (F10.out.at (FB9.out.at PK8.out (by simp)) (by simp;omega));have PR10:=Lib.hid (F10.out.at (FB9.out.at PR8.out (by simp)) (by have:=zF PR8.out;simp;omega))
    have OR8b:=Lib.hid (zL (zL OR8.out FB9.out (by simp)) F10.out (by
     intro q hq;have:g7=q:=by simpa[Value.ownBlock]using hq
     subst this;have:=own_lt OR8.out
     simp;omega))
    have H10:Hid (Fr [] w W10):=Lib.hid ((H8.out.trans FB9.out (by simp)).trans F10.out (by intro x hx;simp at hx;have:=H8.out.size;right;omega));have hsw8:=H8.out.size;clear hW10 d0 d1 df0 df1 OR9 FB9 F10 OR8 PK8 PR8 PK9;have k0:=zA PK10.out (i:=0) rfl;have k1:=zA PK10.out (i:=1) rfl;have kf1:=zE PK10.out (i:=1);go_upto_region 13 with fail
    obtain⟨W11,hW11⟩: ∃W,W=W10.setCell ⟨pb,1,none⟩ (.slice (some ⟨g9,0,none⟩) tn c9):=⟨_,rfl⟩;rw[←hW11];have PK11:Hid (blk W11 pb=some (.cells #[.slice (some ⟨g7,0,none⟩) (kn+mn) c7,.slice (some ⟨g9,0,none⟩) tn c9] 40 (0,0))):=Lib.hid (by rw[hW11,zD,if_pos rfl,PK10.out];rfl);have F11:Hid (Fr [pb] W10 W11):=Lib.hid (by rw[hW11];exact(Fr.refl [pb] W10).setCell (.inl (by simp)) _);have PR11:=Lib.hid (F11.out.at PR10.out (by simp));clear hW11 k0 k1 kf1;have k0:=zA PK11.out (i:=0) rfl;have k1:=zA PK11.out (i:=1) rfl;have r0:=zA PR11.out (i:=0) rfl;have r1:=zA PR11.out (i:=1) rfl;have rf0:=zE PR11.out (i:=0);have rf1:=zE PR11.out (i:=1);go_wp2;refine bodyPost_ret (ze rfl _ _ (pb+1) _ rfl (by rw[zD,if_pos rfl,zD,if_pos rfl,PR11.out];rfl) rfl zO zR) rfl ?_;have hF2: ∀W',Fr [pb+1] W11 W'→Fr [pb,pb+1] W10 W':=fun W' h=>(F11.out.mono (by simp)).trans h (by simp)
    have hp:=HPB.out;have hb10:=zN OR10.out;rw[EK.out];refine⟨g7,c7,g9,c9,rfl,zr (zL OR8b.out (hF2 _ (((Fr.refl [pb+1] W11).setCell (.inl (by simp)) _).setCell (.inl (by simp)) _)) ?_) (by omega),zr (zL OR10.out (hF2 _ (((Fr.refl [pb+1] W11).setCell (.inl (by simp)) _).setCell (.inl (by simp)) _)) ?_) (by omega),H10.out.trans (hF2 _ (((Fr.refl [pb+1] W11).setCell (.inl (by simp)) _).setCell (.inl (by simp)) _)) (by intro x hx;simp at hx;right;omega)⟩
    ·intro q hq;have:g7=q:=by simpa[Value.ownBlock]using hq
     subst this
     simp;omega
    ·intro q hq;have:g9=q:=by simpa[Value.ownBlock]using hq
     subst this
     simp;omega
  ·have c0:((n:Int)==0)=false:=by simp[hn]
   have ek:kk=kn:=by rw[HKK.out,if_neg (by simp[hn])]
   have OT:Hid (W6.ownsRow W3.heap.size 117 6 (.slice (some ⟨g5,0,none⟩) kn c5) kn (pre.take (kn*6))):=Lib.hid (by rw[List.take_of_length_le (by rw[HPR.out];exact Nat.le_refl _)];exact OR6.out);clear OR6;have EK:=Lib.hid ek;clear ek;go_upto_region 9 with fail
   have k0:=zA PK6.out (i:=0) rfl;have k1:=zA PK6.out (i:=1) rfl;have kf0:=zE PK6.out (i:=0);obtain⟨_,rd⟩:=RD.out _ H6.out;have NWB:=Lib.hid (NW2.out _ H6.out);have hgb:=zN OT.out;have hsz3:=HSZ.out;have hne5:pb≠g5:=by omega
   have hne6:pb+1≠g5:=by omega
   have h36:=Lib.hid (Nat.le_trans FB1z.out.size G6z.out.size);go_upto_region 10 with(at_builtin;refine zQ _ rfl _ _ _ rfl W3.heap.size 117 i0 (.agg #[.slice none 0 0,.bool false,.bool false,.int .u64 0,.slice none 0 0,.slice none 0 0]) 6 96 Tryz.underlying37 II.out Z0.out Z1.out Z2.out rfl (by decide) g5 c5 kn (pre.take (kn*6)) rfl OT.out ma mn mc pre2 rfl HPR2.out NWB.out ONE.out.2.1 (by unfold maxLen;omega) (by omega) h36.out ?_;intro g7 c7 w7 own7 fr7 at7;have OR7:=Lib.hid own7;have F7:=Lib.hid fr7;have A7:=Lib.hid at7;clear own7 fr7 at7;have PK7:=Lib.hid (F7.out.at PK6.out (by simp;omega));have k0:=zA PK7.out (i:=0) rfl;have k1:=zA PK7.out (i:=1) rfl;have kf0:=zE PK7.out (i:=0))
   obtain⟨W8,hW8⟩: ∃W,W=w7.setCell ⟨pb,0,none⟩ (.slice (some ⟨g7,0,none⟩) (kn+mn) c7):=⟨_,rfl⟩;rw[←hW8]
   have hg7:pb≠g7∧pb+1≠g7:=by
    rcases A7.out with h|h
    ·rw[h];exact⟨hne5,hne6⟩
    ·have:=zF PR6.out;omega
   have F8:Hid (Fr [pb] w7 W8):=Lib.hid (by rw[hW8];exact(Fr.refl [pb] w7).setCell (.inl (by simp)) _);have PK8:Hid (blk W8 pb=some (.cells #[.slice (some ⟨g7,0,none⟩) (kn+mn) c7,.slice (some ⟨g,o,none⟩) tn tc] 40 (0,0))):=Lib.hid (by rw[hW8,zD,if_pos rfl,PK7.out];rfl);have PR8:=Lib.hid (F8.out.at (F7.out.at PR6.out (by simp;omega)) (by simp))
   have OR8:=Lib.hid (zL OR7.out F8.out (by
    intro q hq;have:g7=q:=by simpa[Value.ownBlock]using hq
    subst this
    simp;omega))
   have H8:Hid (Fr [] w W8):=Lib.hid ((H6.out.trans F7.out (by intro x hx;simp at hx;have:=HPB.out;right;omega)).trans F8.out (by intro x hx;simp at hx;have:=HPB.out;right;omega));have hps8:=zF PR8.out;clear hW8 k0 k1 kf0 rd NWB F7 A7 OR7 PK7 OT F8;have OW2:Hid ((W8.alloc (.cells #[] 127)).ownsRow W8.heap.size 127 2 (.slice (some ⟨W8.heap.size,0,none⟩) 0 0) 0 []):=Lib.hid (own_mk (cur:= #[]) (by rw[zB,if_pos rfl]) (Nat.le_refl _) (Nat.le_refl _) (Nat.zero_le _) rfl rfl);have FA2:=Lib.hid ((Fr.refl [] W8).alloc (.cells #[] 127));have PK9:=Lib.hid (FA2.out.at PK8.out (by simp));have k1:=zA PK9.out (i:=1) rfl;have k18:=zA PK8.out (i:=1) rfl;have NW4:=Lib.hid (NW3.out _ (H8.out.trans FA2.out (by simp)));have hkl8:=zF PK8.out;have hkn8:pb≠W8.heap.size:=by omega
   go_upto_region 11 with(at_builtin;refine zQ _ rfl _ _ _ rfl W8.heap.size 127 i1 (.agg #[.bool false,.slice none 0 0]) 2 32 Tryz.underlying38 IR.out Y0.out Y1.out Y2.out rfl (by decide) W8.heap.size 0 0 [] rfl OW2.out (some ⟨g,o,none⟩) tn tc ts rfl HTS.out NW4.out ONE.out.2.2 (by unfold maxLen;omega) (by omega) FA2.out.size ?_;intro g9 c9 w9 own9 fr9 at9;rw[Nat.zero_add,List.nil_append]at own9;rw[Nat.zero_add];have OR9:=Lib.hid own9;have FB9:Hid (Fr [] W8 w9):=Lib.hid (FA2.out.trans fr9 (fun x hx=> .inr (by simp only[List.mem_singleton]at hx;omega)));clear own9 fr9 at9 OW2 FA2 NW4)
   have hb9:=zN OR9.out;have hl9:=own_lt OR9.out;obtain⟨u0,hu0⟩: ∃u,ts[i*2]? =some u:=⟨ts[i*2]'(by rw[HTS.out];omega),by simp⟩;obtain⟨u1,hu1⟩: ∃u,ts[i*2+1]? =some u:=⟨ts[i*2+1]'(by rw[HTS.out];omega),by simp⟩;have d0:=zX OR9.out hu0;have d1:=zX OR9.out hu1;have df0:=zf OR9.out (i*2);have df1:=zf OR9.out (i*2+1);have hcp9:=(ZC OR9.out).1;clear hu0 hu1 k1 k18;go_upto_region 12 with fail
   obtain⟨W10,hW10⟩: ∃W,W=(w9.setCell ⟨g9,i*2,none⟩ (.bool true)).setCell ⟨g9,i*2+1,none⟩ (.slice none 0 0):=⟨_,rfl⟩;rw[←hW10];have OR10:Hid (W10.ownsRow W8.heap.size 127 2 (.slice (some ⟨g9,0,none⟩) tn c9) tn ((ts.set (i*2) (.bool true)).set (i*2+1) (.slice none 0 0))):=Lib.hid (by rw[hW10];exact zg (zg OR9.out _ _) _ _);have F10:Hid (Fr [g9] w9 W10):=Lib.hid (by rw[hW10];exact((Fr.refl [g9] w9).setCell (.inl (by simp)) _).setCell (.inl (by simp)) _);have PK10:=Lib.hid (F10.out.at (FB9.out.at PK8.out (by simp)) (by simp;omega));have PR10:=Lib.hid (F10.out.at (FB9.out.at PR8.out (by simp)) (by have:=zF PR8.out;simp;omega))
   have OR8b:=Lib.hid (zL (zL OR8.out FB9.out (by simp)) F10.out (by
    intro q hq;have:g7=q:=by simpa[Value.ownBlock]using hq
    subst this;have:=own_lt OR8.out
    simp;omega))
   have H10:Hid (Fr [] w W10):=Lib.hid ((H8.out.trans FB9.out (by simp)).trans F10.out (by intro x hx;simp at hx;have:=H8.out.size;right;omega));have hsw8:=H8.out.size;clear hW10 d0 d1 df0 df1 OR9 FB9 F10 OR8 PK8 PR8 PK9;have k0:=zA PK10.out (i:=0) rfl;have k1:=zA PK10.out (i:=1) rfl;have kf1:=zE PK10.out (i:=1);go_upto_region 13 with fail
   obtain⟨W11,hW11⟩: ∃W,W=W10.setCell ⟨pb,1,none⟩ (.slice (some ⟨g9,0,none⟩) tn c9):=⟨_,rfl⟩;rw[←hW11];have PK11:Hid (blk W11 pb=some (.cells #[.slice (some ⟨g7,0,none⟩) (kn+mn) c7,.slice (some ⟨g9,0,none⟩) tn c9] 40 (0,0))):=Lib.hid (by rw[hW11,zD,if_pos rfl,PK10.out];rfl);have F11:Hid (Fr [pb] W10 W11):=Lib.hid (by rw[hW11];exact(Fr.refl [pb] W10).setCell (.inl (by simp)) _);have PR11:=Lib.hid (F11.out.at PR10.out (by simp));clear hW11 k0 k1 kf1;have k0:=zA PK11.out (i:=0) rfl;have k1:=zA PK11.out (i:=1) rfl;have r0:=zA PR11.out (i:=0) rfl;have r1:=zA PR11.out (i:=1) rfl;have rf0:=zE PR11.out (i:=0);have rf1:=zE PR11.out (i:=1);go_wp2;refine bodyPost_ret (ze rfl _ _ (pb+1) _ rfl (by rw[zD,if_pos rfl,zD,if_pos rfl,PR11.out];rfl) rfl zO zR) rfl ?_;have hF2: ∀W',Fr [pb+1] W11 W'→Fr [pb,pb+1] W10 W':=fun W' h=>(F11.out.mono (by simp)).trans h (by simp)
   have hp:=HPB.out;have hb10:=zN OR10.out;rw[EK.out];refine⟨g7,c7,g9,c9,rfl,zr (zL OR8b.out (hF2 _ (((Fr.refl [pb+1] W11).setCell (.inl (by simp)) _).setCell (.inl (by simp)) _)) ?_) (by omega),zr (zL OR10.out (hF2 _ (((Fr.refl [pb+1] W11).setCell (.inl (by simp)) _).setCell (.inl (by simp)) _)) ?_) (by omega),H10.out.trans (hF2 _ (((Fr.refl [pb+1] W11).setCell (.inl (by simp)) _).setCell (.inl (by simp)) _)) (by intro x hx;simp at hx;right;omega)⟩
   ·intro q hq;have:g7=q:=by simpa[Value.ownBlock]using hq
    subst this
    simp;omega
   ·intro q hq;have:g9=q:=by simpa[Value.ownBlock]using hq
    subst this
    simp;omega
end
end Go.Proofs.YtghkahcogphomaaGreat
