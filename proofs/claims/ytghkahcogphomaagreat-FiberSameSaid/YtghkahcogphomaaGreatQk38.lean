/- Fibers: a part of the walk. No condition. -/
import Derived.Test.YtghkahcogphomaaGreatQk37
set_option linter.all false
namespace Go.Proofs.YtghkahcogphomaaGreat
section
open Go.ChangeShapes Go.WideShapes Go.RowKit
variable{w w':World}{X X':List Nat}{s t:SV}{L:List BV}{x y:BV}{k:PK}
set_option maxRecDepth 100000 in
set_option maxHeartbeats 1000000 in
theorem menter_no(w:World)(ka:Option Addr)(kn kc:Nat)(ta:Option Addr)(tn tc:Nat)(deep:Bool)(ret:Int)(la:Option Addr)(ln lc:Nat)(qa:Option Addr)(qn qc:Nat)(hi:ln≠qn∨20<ln):
 Calls Tryz.prog 33 #[.agg #[.slice ka kn kc,.slice ta tn tc],.agg #[.bool deep,.int .u64 ret,.slice la ln lc,.slice qa qn qc]] w fun e w'=>e=.returned (.tuple #[.agg #[.slice ka kn kc,.slice ta tn tc],.bool false])∧Fr [] w w':=by
 obtain⟨W3,hW3⟩: ∃W,W=(((w.alloc (.cells #[.slice ka kn kc,.slice ta tn tc] 40)).alloc (.cells #[.bool deep,.int .u64 ret,.slice la ln lc,.slice qa qn qc] 72)).alloc (.cells #[.slice none 0 0,.slice none 0 0] 40)):=⟨_,rfl⟩;have FW3:Hid (Fr [] w W3):=Lib.hid (by rw[hW3];exact((((Fr.refl _ _).alloc _).alloc _).alloc _));have PW30:Hid (blk W3 (w.heap.size)=some (.cells #[.slice ka kn kc,.slice ta tn tc] 40 (0,0))):=Lib.hid (by rw[hW3];simp only[zB,zC];rw[if_neg (by omega),if_neg (by omega),if_pos trivial]);have PW31:Hid (blk W3 (w.heap.size+1)=some (.cells #[.bool deep,.int .u64 ret,.slice la ln lc,.slice qa qn qc] 72 (0,0))):=Lib.hid (by rw[hW3];simp only[zB,zC];rw[if_neg (by omega),if_pos trivial]);have PW32:Hid (blk W3 (w.heap.size+1+1)=some (.cells #[.slice none 0 0,.slice none 0 0] 40 (0,0))):=Lib.hid (by rw[hW3];simp only[zB,zC];rw[if_pos trivial]);obtain⟨pb,hpb⟩: ∃pb,pb=w.heap.size:=⟨_,rfl⟩;have HPB:=Lib.hid hpb;rw[←hpb]at PW30;rw[←hpb]at PW31;rw[←hpb]at PW32;have HSZ:Hid (W3.heap.size=pb+1+1+1):=Lib.hid (by rw[hW3];simp only[zC];omega);go_enter Tryz.func33,Tryz.ntmps33;go_upto_region 1 with fail
 rw[←hW3]
 try rw[←hpb]
 clear hW3 hpb;have p0:=zA PW30.out (i:=0) rfl;have p1:=zA PW30.out (i:=1) rfl;have h0:=zA PW31.out (i:=0) rfl;have h1:=zA PW31.out (i:=1) rfl;have h2:=zA PW31.out (i:=2) rfl;have h3:=zA PW31.out (i:=3) rfl;have r0:=zA PW32.out (i:=0) rfl;have r1:=zA PW32.out (i:=1) rfl;have rf0:=zE PW32.out (i:=0);have rf1:=zE PW32.out (i:=1);by_cases h0:ln=qn
 ·have h1:20<ln:=by omega
  have b0:((ln:Int) !=(qn:Int))=false:=by simp[h0]
  have b1:decide (20<(ln:Int))=true:=by simp;omega
  subst h0;go_wp2;refine bodyPost_ret (ze rfl _ _ (pb+1+1) _ rfl (by rw[zD,if_pos rfl,zD,if_pos rfl,PW32.out];rfl) rfl zO zR) rfl ?_;exact⟨rfl,((FW3.out.setCell (.inr (by have:=HPB.out;omega)) _).setCell (.inr (by have:=HPB.out;omega)) _)⟩
 ·have b0:((ln:Int) !=(qn:Int))=true:=by simp;omega
  go_wp2;refine bodyPost_ret (ze rfl _ _ (pb+1+1) _ rfl (by rw[zD,if_pos rfl,zD,if_pos rfl,PW32.out];rfl) rfl zO zR) rfl ?_;exact⟨rfl,((FW3.out.setCell (.inr (by have:=HPB.out;omega)) _).setCell (.inr (by have:=HPB.out;omega)) _)⟩
set_option maxRecDepth 100000 in
set_option maxHeartbeats 1000000 in
theorem menter_yes(w:World)(ka:Option Addr)(kn kc:Nat)(ta:Option Addr)(tn tc:Nat)(deep:Bool)(ret:Int)(la:Option Addr)(ln lc:Nat)(qa:Option Addr)(qn qc:Nat)(pre:List Value)(hpre:pre.length=kn*6)(hkn:kn≤1000000)(hi:ln=qn∧ln≤20)(NW:Hid (∀W,Fr [] w W→kn=0∨∃ad,ka=some ad∧∀j u,pre[j]? =some u→W.cell? (ad.add j)=some u))(ONE:Hid (∀u,u∈pre→u.oneCell'=true)):
 Calls Tryz.prog 33 #[.agg #[.slice ka kn kc,.slice ta tn tc],.agg #[.bool deep,.int .u64 ret,.slice la ln lc,.slice qa qn qc]] w fun e w'=> ∃(g c:Nat),e=.returned (.tuple #[.agg #[.slice (some ⟨g,0,none⟩) (kn+1) c,.slice ta tn tc],.bool true])∧w'.ownsRow w.heap.size 117 6 (.slice (some ⟨g,0,none⟩) (kn+1) c) (kn+1) (pre++[.slice none 0 0,.bool true,.bool deep,.int .u64 ret,.slice la ln lc,.slice qa qn qc])∧Fr [] w w':=by
 obtain⟨h0,h1⟩:=hi;subst h0;obtain⟨i0,hii,hz0,hz1,hz2⟩:=info_parts info_t20b;have II:=Lib.hid hii;have Z0:=Lib.hid hz0;have Z1:=Lib.hid hz1;have Z2:=Lib.hid hz2;clear hii hz0 hz1 hz2;have HPR:=Lib.hid hpre;clear hpre;obtain⟨W3,hW3⟩: ∃W,W=(((w.alloc (.cells #[.slice ka kn kc,.slice ta tn tc] 40)).alloc (.cells #[.bool deep,.int .u64 ret,.slice la ln lc,.slice qa ln qc] 72)).alloc (.cells #[.slice none 0 0,.slice none 0 0] 40)):=⟨_,rfl⟩;have FW3:Hid (Fr [] w W3):=Lib.hid (by rw[hW3];exact((((Fr.refl _ _).alloc _).alloc _).alloc _));have PW30:Hid (blk W3 (w.heap.size)=some (.cells #[.slice ka kn kc,.slice ta tn tc] 40 (0,0))):=Lib.hid (by rw[hW3];simp only[zB,zC];rw[if_neg (by omega),if_neg (by omega),if_pos trivial]);have PW31:Hid (blk W3 (w.heap.size+1)=some (.cells #[.bool deep,.int .u64 ret,.slice la ln lc,.slice qa ln qc] 72 (0,0))):=Lib.hid (by rw[hW3];simp only[zB,zC];rw[if_neg (by omega),if_pos trivial]);have PW32:Hid (blk W3 (w.heap.size+1+1)=some (.cells #[.slice none 0 0,.slice none 0 0] 40 (0,0))):=Lib.hid (by rw[hW3];simp only[zB,zC];rw[if_pos trivial]);obtain⟨pb,hpb⟩: ∃pb,pb=w.heap.size:=⟨_,rfl⟩;have HPB:=Lib.hid hpb;rw[←hpb]at PW30;rw[←hpb]at PW31;rw[←hpb]at PW32;have HSZ:Hid (W3.heap.size=pb+1+1+1):=Lib.hid (by rw[hW3];simp only[zC];omega);go_enter Tryz.func33,Tryz.ntmps33;go_upto_region 1 with fail
 rw[←hW3]
 try rw[←hpb]
 clear hW3 hpb;have p0:=zA PW30.out (i:=0) rfl;have p1:=zA PW30.out (i:=1) rfl;have pf0:=zE PW30.out (i:=0);have pf1:=zE PW30.out (i:=1);have h0:=zA PW31.out (i:=0) rfl;have h1:=zA PW31.out (i:=1) rfl;have h2:=zA PW31.out (i:=2) rfl;have h3:=zA PW31.out (i:=3) rfl;have b0:((ln:Int) !=(ln:Int))=false:=by simp
 have b1:decide (20<(ln:Int))=false:=by simp;omega
 have OW1:Hid ((W3.alloc (.cells #[] 117)).ownsRow W3.heap.size 117 6 (.slice (some ⟨W3.heap.size,0,none⟩) 0 0) 0 []):=Lib.hid (own_mk (cur:= #[]) (by rw[zB,if_pos rfl]) (Nat.le_refl _) (Nat.le_refl _) (Nat.zero_le _) rfl rfl);have FA1:=Lib.hid ((Fr.refl [] W3).alloc (.cells #[] 117));have NW1:=Lib.hid (NW.out _ (FW3.out.trans FA1.out (by simp)));have hkl:=zF PW30.out;have hkn1:pb≠W3.heap.size:=by omega
 have hkl1:=zF PW31.out;have hkn2:pb+1≠W3.heap.size:=by omega
 go_upto_region 4 with(at_builtin;refine zQ _ rfl _ _ _ rfl W3.heap.size 117 i0 (.agg #[.slice none 0 0,.bool false,.bool false,.int .u64 0,.slice none 0 0,.slice none 0 0]) 6 96 Tryz.underlying37 II.out Z0.out Z1.out Z2.out rfl (by decide) W3.heap.size 0 0 [] rfl OW1.out ka kn kc pre rfl HPR.out NW1.out ONE.out (by unfold maxLen;omega) (by omega) FA1.out.size ?_;intro g5 c5 w5' own5 fr5 at5;rw[Nat.zero_add,List.nil_append]at own5;rw[Nat.zero_add];have OR1:=Lib.hid own5;have FB1:=Lib.hid (FA1.out.trans fr5 (fun x hx=> .inr (by simp only[List.mem_singleton]at hx;omega)));clear own5 fr5 at5 OW1 FA1)
 clear p0 p1 pf0 pf1 h0 h2 h3;have PK5:=Lib.hid (FB1.out.at PW30.out (by simp));have PH5:=Lib.hid (FB1.out.at PW31.out (by simp));have PR5:=Lib.hid (FB1.out.at PW32.out (by simp));have h0:=zA PH5.out (i:=0) rfl;have h1:=zA PH5.out (i:=1) rfl;have h2:=zA PH5.out (i:=2) rfl;have h3:=zA PH5.out (i:=3) rfl;go_upto_region 5 with(at_builtin;refine zj _ rfl _ _ _ rfl W3.heap.size 117 i0 (.agg #[.slice none 0 0,.bool false,.bool false,.int .u64 0,.slice none 0 0,.slice none 0 0]) 6 96 Tryz.underlying37 II.out Z0.out Z1.out Z2.out rfl (by decide) g5 c5 kn pre rfl (zL OR1.out ((Fr.refl [] w5').alloc _) (by simp)) ⟨w5'.heap.size,0,none⟩ 1 1 [.slice none 0 0,.bool true,.bool deep,.int .u64 ret,.slice la ln lc,.slice qa ln qc] rfl rfl (World.news_of_block (show blk (World.alloc _ _) _=_ from by rw[zB,if_pos rfl])) (by simp[Value.oneCell']) (by unfold maxLen;omega) (by omega) (Nat.le_trans FB1.out.size ((Fr.refl [] w5').alloc _).size) ?_;intro g6 c6 w6' own6 fr6 at6;have OR6:=Lib.hid own6;have HG5:=zN OR1.out;have FB6:=Lib.hid ((FB1.out.alloc _).trans fr6 (fun x hx=> .inr (by simp only[List.mem_singleton]at hx;omega)));clear own6 fr6 at6 HG5;have PK6:=Lib.hid (FB6.out.at PW30.out (by simp));have k0:=zA PK6.out (i:=0) rfl;have kf0:=zE PK6.out (i:=0))
 obtain⟨W7,hW7⟩: ∃W,W=w6'.setCell ⟨pb,0,none⟩ (.slice (some ⟨g6,0,none⟩) (kn+1) c6):=⟨_,rfl⟩;rw[←hW7];have F7:Hid (Fr [pb] w6' W7):=Lib.hid (by rw[hW7];exact(Fr.refl [pb] w6').setCell (.inl (by simp)) _);have PK7:Hid (blk W7 pb=some (.cells #[.slice (some ⟨g6,0,none⟩) (kn+1) c6,.slice ta tn tc] 40 (0,0))):=Lib.hid (by rw[hW7,zD,if_pos rfl,PK6.out];rfl);have PR7:=Lib.hid (F7.out.at (FB6.out.at PW32.out (by simp)) (by simp;omega))
 have FIN:Hid (∀W8,Fr [pb+1+1] W7 W8→W8.ownsRow w.heap.size 117 6 (.slice (some ⟨g6,0,none⟩) (kn+1) c6) (kn+1) (pre++[.slice none 0 0,.bool true,.bool deep,.int .u64 ret,.slice la ln lc,.slice qa ln qc])∧Fr [] w W8):=Lib.hid (fun W8 hF=>by
  have hb:=zN OR6.out;have hs:=HSZ.out;have hp:=HPB.out;have hF2:Fr [pb,pb+1+1] w6' W8:=(F7.out.mono (by simp)).trans hF (by simp);refine⟨zr (zL OR6.out hF2 ?_) (by omega),(FW3.out.trans FB6.out (by simp)).trans hF2 (by intro x hx;simp at hx;rcases hx with rfl|rfl<;>right<;>omega)⟩;intro x hx;have:g6=x:=by simpa[Value.ownBlock]using hx
  subst this
  simp;omega)
 clear hW7 OR6 k0 kf0 OR1 h0 h2 h3;have p0:=zA PK7.out (i:=0) rfl;have p1:=zA PK7.out (i:=1) rfl;have r0:=zA PR7.out (i:=0) rfl;have r1:=zA PR7.out (i:=1) rfl;have rf0:=zE PR7.out (i:=0);have rf1:=zE PR7.out (i:=1);go_wp2;refine bodyPost_ret (ze rfl _ _ (pb+1+1) _ rfl (by rw[zD,if_pos rfl,zD,if_pos rfl,PR7.out];rfl) rfl zO zR) rfl ?_;exact⟨g6,c6,rfl,FIN.out _ (((Fr.refl [pb+1+1] W7).setCell (.inl (by simp)) _).setCell (.inl (by simp)) _)⟩
theorem doc_enter(w:World)(H:PH)(sl sq:SV)(h:MdR X w s t k)(hX: ∀z,z∈X→z<w.heap.size)(hf:Fit k)(hl:WsR X w sl H.ls)(hq:WsR X w sq H.ps):
 Calls Tryz.prog 33 #[.agg #[.slice s.a s.n s.cap,.slice t.a t.n t.cap],.agg #[.bool H.deep,.int .u64 H.ret,.slice sl.a sl.n sl.cap,.slice sq.a sq.n sq.cap]] w (MdOut X w t k (enterM H k)):=by
 have hln:=hl.ne;have hqn:=hq.ne;by_cases hi:H.ls.length≠H.ps.length∨20<H.ls.length
 ·refine(menter_no w _ _ _ _ _ _ _ _ _ _ _ _ _ _ (by rw[hln,hqn];exact hi)).mono ?_;rintro e w' ⟨rfl,hF⟩;have:enterM H k=none:=by unfold enterM;rw[if_pos hi]
  rw[this];exact⟨s,rfl,h.keep hF,hF⟩
 ·obtain⟨L,h1,h2⟩:=h.f;have hsn:=h2.1.ne;have hLl:L.length=k.fs.length:=by have:=congrArg List.length h1;simpa using this
  refine(menter_yes w _ _ _ _ _ _ _ _ _ _ _ _ _ _ (L.flatMap BV.cells) (by rw[hsn];exact flat_len _ 6 BV.len L) (by rw[hsn,hLl];exact hf.1) (by rw[hln,hqn];omega) (Lib.hid fun W hF=>by rw[hsn];exact Rd.news (h2.1.fr hF (by simp))) (Lib.hid (zl _ BV.one L))).mono ?_;rintro e w' ⟨g,c,rfl,ho,hF⟩;have:enterM H k=some ⟨⟨[],some H⟩::k.fs,k.tk⟩:=by unfold enterM;rw[if_neg hi]
  rw[this];refine⟨⟨some ⟨g,0,none⟩,s.n+1,c⟩,rfl,⟨⟨L++[⟨⟨[],some H⟩,[],SV.none,sl,sq⟩], ?_, ?_⟩,(h.fr hF (by simp)).t⟩,hF⟩
  ·rw[List.map_append,h1];simp
  ·refine⟨?_, ?_⟩
   ·rw[List.length_append,List.length_singleton,←hsn];rw[List.flatMap_append];refine Rd.of_own (B:=w.heap.size) (by simpa[BV.cells,BV.deep,BV.ret,SV.v,SV.none]using ho) ?_ hX;rw[←List.flatMap_append];exact zl _ BV.one _
   ·intro q hq';rcases List.mem_append.1 hq' with hq'|hq'
    ·exact(h2.2 q hq').fr hF (by simp)
    ·simp at hq';subst hq';exact⟨rfl,⟨Rd.nil,by simp⟩,Rd.fr hl hF (by simp),Rd.fr hq hF (by simp)⟩
set_option maxRecDepth 100000 in
set_option maxHeartbeats 1000000 in
theorem mleave_no(w:World)(ka:Option Addr)(kn kc:Nat)(ta:Option Addr)(tn tc:Nat)(fa la qa:Option Addr)(n fc ln lc qn qc:Nat)(hd dp:Bool)(ret:Int)(CT:Hid (∀W,Fr [] w W→Calls Tryz.prog 76 #[.agg #[.slice ka kn kc,.slice ta tn tc]] W fun e w'=>e=.returned (.agg #[.slice fa n fc,.bool hd,.bool dp,.int .u64 ret,.slice la ln lc,.slice qa qn qc])∧Fr [] W w'))(hi:0<n∨kn=1):
 Calls Tryz.prog 34 #[.agg #[.slice ka kn kc,.slice ta tn tc]] w fun e w'=>e=.returned (.tuple #[.agg #[.slice ka kn kc,.slice ta tn tc],.int .u64 45,.bool false])∧Fr [] w w':=by
 obtain⟨W3,hW3⟩: ∃W,W=((w.alloc (.cells #[.slice ka kn kc,.slice ta tn tc] 40)).alloc (.cells #[.slice none 0 0,.slice none 0 0] 40)):=⟨_,rfl⟩;have FW3:Hid (Fr [] w W3):=Lib.hid (by rw[hW3];exact(((Fr.refl _ _).alloc _).alloc _));have PW30:Hid (blk W3 (w.heap.size)=some (.cells #[.slice ka kn kc,.slice ta tn tc] 40 (0,0))):=Lib.hid (by rw[hW3];simp only[zB,zC];rw[if_neg (by omega),if_pos trivial]);have PW31:Hid (blk W3 (w.heap.size+1)=some (.cells #[.slice none 0 0,.slice none 0 0] 40 (0,0))):=Lib.hid (by rw[hW3];simp only[zB,zC];rw[if_pos trivial]);obtain⟨pb,hpb⟩: ∃pb,pb=w.heap.size:=⟨_,rfl⟩;have HPB:=Lib.hid hpb;rw[←hpb]at PW30;rw[←hpb]at PW31;have HSZ:Hid (W3.heap.size=pb+1+1):=Lib.hid (by rw[hW3];simp only[zC];omega);go_enter Tryz.func34,Tryz.ntmps34;go_upto_region 1 with fail
 rw[←hW3]
 try rw[←hpb]
 clear hW3 hpb;have p0:=zA PW30.out (i:=0) rfl;have p1:=zA PW30.out (i:=1) rfl;go_upto_region 2 with(go_at_call 76;refine(CT.out _ FW3.out).mono ?_;rintro e w4 ⟨rfl,hF4⟩;have G4:=Lib.hid hF4;clear hF4 p0 p1)
 obtain⟨W6,hW6⟩: ∃W,W=w4.alloc (.cells #[.slice fa n fc,.bool hd,.bool dp,.int .u64 ret,.slice la ln lc,.slice qa qn qc] 117):=⟨_,rfl⟩;obtain⟨kf,hkf⟩: ∃k,k=w4.heap.size:=⟨_,rfl⟩;have G6:Hid (Fr [] W3 W6):=Lib.hid (by rw[hW6];exact G4.out.alloc _);have H6:Hid (Fr [] w W6):=Lib.hid (FW3.out.trans G6.out (by simp));have PF6:Hid (blk W6 kf=some (.cells #[.slice fa n fc,.bool hd,.bool dp,.int .u64 ret,.slice la ln lc,.slice qa qn qc] 117 (0,0))):=Lib.hid (by rw[hW6,hkf,zB,if_pos rfl]);have PK6:=Lib.hid (G6.out.at PW30.out (by simp));have PR6:=Lib.hid (G6.out.at PW31.out (by simp));have hk3:pb+1<kf:=by have:=G4.out.size;have:=HSZ.out;omega
 have HKS:Hid (W6.heap.size=kf+1):=Lib.hid (by rw[hW6,zC,hkf]);rw[←hW6]
 try rw[←hkf]
 clear hW6 hkf CT PW30 PW31 G6;have f0:=zA PF6.out (i:=0) rfl;have f1:=zA PF6.out (i:=1) rfl;have f2:=zA PF6.out (i:=2) rfl;have f3:=zA PF6.out (i:=3) rfl;have f4:=zA PF6.out (i:=4) rfl;have f5:=zA PF6.out (i:=5) rfl;have p0:=zA PK6.out (i:=0) rfl;have p1:=zA PK6.out (i:=1) rfl;have r0:=zA PR6.out (i:=0) rfl;have r1:=zA PR6.out (i:=1) rfl;have rf0:=zE PR6.out (i:=0);have rf1:=zE PR6.out (i:=1);by_cases h0:0<n
 ·have b0:decide (0<(n:Int))=true:=by simp;omega
  go_upto_region 3 with fail
  go_region_with (go_at_call 38;refine(none20_c _).mono ?_;rintro e w' ⟨rfl,rfl⟩)
  all_goals
   go_wp2;refine bodyPost_ret (ret_st3 rfl _ _ (pb+1) _ rfl (by first|(rw[zD,if_pos rfl,zD,if_pos rfl];erw [PR6.out];rfl)|(show blk (World.setCell (World.setCell _ _ _) _ _) _=_;rw[zD,if_pos rfl,zD,if_pos rfl];erw [PR6.out];rfl)) rfl zO zR) rfl ?_;exact⟨rfl,((H6.out.setCell (.inr (by have:=HPB.out;omega)) _).setCell (.inr (by have:=HPB.out;omega)) _).drew⟩
 ·have b0:decide (0<(n:Int))=false:=by simp;omega
  have b1:((kn:Int)==1)=true:=by simp;omega
  go_upto_region 3 with fail
  go_region_with (go_at_call 38;refine(none20_c _).mono ?_;rintro e w' ⟨rfl,rfl⟩)
  all_goals
   go_wp2;refine bodyPost_ret (ret_st3 rfl _ _ (pb+1) _ rfl (by first|(rw[zD,if_pos rfl,zD,if_pos rfl];erw [PR6.out];rfl)|(show blk (World.setCell (World.setCell _ _ _) _ _) _=_;rw[zD,if_pos rfl,zD,if_pos rfl];erw [PR6.out];rfl)) rfl zO zR) rfl ?_;exact⟨rfl,((H6.out.setCell (.inr (by have:=HPB.out;omega)) _).setCell (.inr (by have:=HPB.out;omega)) _).drew⟩
set_option maxRecDepth 100000 in
set_option maxHeartbeats 1000000 in
theorem mleave_yes(w:World)(j:Nat)(ka:Option Addr)(kc:Nat)(ta:Option Addr)(tn tc:Nat)(fa la qa:Option Addr)(n fc ln lc qn qc:Nat)(hd dp:Bool)(ret:Int)(CT:Hid (∀W,Fr [] w W→Calls Tryz.prog 76 #[.agg #[.slice ka (j+1) kc,.slice ta tn tc]] W fun e w'=>e=.returned (.agg #[.slice fa 0 fc,.bool hd,.bool dp,.int .u64 ret,.slice la ln lc,.slice qa qn qc])∧Fr [] W w'))(hj:0<j)(hj1:j≤1000000)(hcp:j+1≤kc)(hcp2:kc≤maxLen)(pre:List Value)(hpre:pre.length=j*6)(NW:Hid (∀W,Fr [] w W→j=0∨∃ad,ka=some ad∧∀i u,pre[i]? =some u→W.cell? (ad.add i)=some u))(ONE:Hid (∀u,u∈pre→u.oneCell'=true)):
 Calls Tryz.prog 34 #[.agg #[.slice ka (j+1) kc,.slice ta tn tc]] w fun e w'=> ∃(g c:Nat),e=.returned (.tuple #[.agg #[.slice (some ⟨g,0,none⟩) j c,.slice ta tn tc],.int .u64 (if hd=true then ret else 45),.bool true])∧w'.ownsRow w.heap.size 117 6 (.slice (some ⟨g,0,none⟩) j c) j pre∧Fr [] w w':=by
 clear n;obtain⟨i0,hii,hz0,hz1,hz2⟩:=info_parts info_t20b;have II:=Lib.hid hii;have Z0:=Lib.hid hz0;have Z1:=Lib.hid hz1;have Z2:=Lib.hid hz2;have HPR:=Lib.hid hpre;unfold maxLen at hcp2;clear hii hz0 hz1 hz2 hpre;obtain⟨W3,hW3⟩: ∃W,W=((w.alloc (.cells #[.slice ka (j+1) kc,.slice ta tn tc] 40)).alloc (.cells #[.slice none 0 0,.slice none 0 0] 40)):=⟨_,rfl⟩;have FW3:Hid (Fr [] w W3):=Lib.hid (by rw[hW3];exact(((Fr.refl _ _).alloc _).alloc _));have PW30:Hid (blk W3 (w.heap.size)=some (.cells #[.slice ka (j+1) kc,.slice ta tn tc] 40 (0,0))):=Lib.hid (by rw[hW3];simp only[zB,zC];rw[if_neg (by omega),if_pos trivial]);have PW31:Hid (blk W3 (w.heap.size+1)=some (.cells #[.slice none 0 0,.slice none 0 0] 40 (0,0))):=Lib.hid (by rw[hW3];simp only[zB,zC];rw[if_pos trivial]);obtain⟨pb,hpb⟩: ∃pb,pb=w.heap.size:=⟨_,rfl⟩;have HPB:=Lib.hid hpb;rw[←hpb]at PW30;rw[←hpb]at PW31;have HSZ:Hid (W3.heap.size=pb+1+1):=Lib.hid (by rw[hW3];simp only[zC];omega);go_enter Tryz.func34,Tryz.ntmps34;go_upto_region 1 with fail
 rw[←hW3]
 try rw[←hpb]
 clear hW3 hpb;have p0:=zA PW30.out (i:=0) rfl;have p1:=zA PW30.out (i:=1) rfl;go_upto_region 2 with(go_at_call 76;refine(CT.out _ FW3.out).mono ?_;rintro e w4 ⟨rfl,hF4⟩;have G4:=Lib.hid hF4;clear hF4 p0 p1)
 obtain⟨W6,hW6⟩: ∃W,W=w4.alloc (.cells #[.slice fa 0 fc,.bool hd,.bool dp,.int .u64 ret,.slice la ln lc,.slice qa qn qc] 117):=⟨_,rfl⟩;obtain⟨kf,hkf⟩: ∃k,k=w4.heap.size:=⟨_,rfl⟩;have G6:Hid (Fr [] W3 W6):=Lib.hid (by rw[hW6];exact G4.out.alloc _);have H6:Hid (Fr [] w W6):=Lib.hid (FW3.out.trans G6.out (by simp));have PF6:Hid (blk W6 kf=some (.cells #[.slice fa 0 fc,.bool hd,.bool dp,.int .u64 ret,.slice la ln lc,.slice qa qn qc] 117 (0,0))):=Lib.hid (by rw[hW6,hkf,zB,if_pos rfl]);have PK6:=Lib.hid (G6.out.at PW30.out (by simp));have PR6:=Lib.hid (G6.out.at PW31.out (by simp));have hk3:pb+1<kf:=by have:=G4.out.size;have:=HSZ.out;omega
 have HKS:Hid (W6.heap.size=kf+1):=Lib.hid (by rw[hW6,zC,hkf]);rw[←hW6]
 try rw[←hkf]
 clear hW6 hkf CT PW30 PW31 G6;have f0:=zA PF6.out (i:=0) rfl;have f1:=zA PF6.out (i:=1) rfl;have f2:=zA PF6.out (i:=2) rfl;have f3:=zA PF6.out (i:=3) rfl;have f4:=zA PF6.out (i:=4) rfl;have f5:=zA PF6.out (i:=5) rfl;have p0:=zA PK6.out (i:=0) rfl;have p1:=zA PK6.out (i:=1) rfl;have pf0:=zE PK6.out (i:=0);have pf1:=zE PK6.out (i:=1);have b1:((j:Int)+1==1)=false:=by simp;omega
 have OW1:Hid ((W6.alloc (.cells #[] 117)).ownsRow W6.heap.size 117 6 (.slice (some ⟨W6.heap.size,0,none⟩) 0 0) 0 []):=Lib.hid (own_mk (cur:= #[]) (by rw[zB,if_pos rfl]) (Nat.le_refl _) (Nat.le_refl _) (Nat.zero_le _) rfl rfl);have FA1:=Lib.hid ((Fr.refl [] W6).alloc (.cells #[] 117));have NW1:=Lib.hid (NW.out _ (H6.out.trans FA1.out (by simp)));have hkl:=zF PK6.out;have hkn1:pb≠W6.heap.size:=by omega
 go_upto_region 5 with(at_builtin;refine zQ _ rfl _ _ _ rfl W6.heap.size 117 i0 (.agg #[.slice none 0 0,.bool false,.bool false,.int .u64 0,.slice none 0 0,.slice none 0 0]) 6 96 Tryz.underlying37 II.out Z0.out Z1.out Z2.out rfl (by decide) W6.heap.size 0 0 [] rfl OW1.out ka j kc pre rfl HPR.out NW1.out ONE.out (by unfold maxLen;omega) (by omega) FA1.out.size ?_;intro g5 c5 w5' own5 fr5 at5;rw[Nat.zero_add,List.nil_append]at own5;rw[Nat.zero_add];have OR1:=Lib.hid own5;have FB1:=Lib.hid (FA1.out.trans fr5 (fun x hx=> .inr (by simp only[List.mem_singleton]at hx;omega)));clear own5 fr5 at5 OW1 FA1;have PK5:=Lib.hid (FB1.out.at PK6.out (by simp));have k0:=zA PK5.out (i:=0) rfl;have kf0:=zE PK5.out (i:=0))
 obtain⟨W7,hW7⟩: ∃W,W=w5'.setCell ⟨pb,0,none⟩ (.slice (some ⟨g5,0,none⟩) j c5):=⟨_,rfl⟩;rw[←hW7];have F7:Hid (Fr [pb] W6 W7):=Lib.hid (by rw[hW7];exact(FB1.out.mono (by simp)).setCell (.inl (by simp)) _);have PK7:Hid (blk W7 pb=some (.cells #[.slice (some ⟨g5,0,none⟩) j c5,.slice ta tn tc] 40 (0,0))):=Lib.hid (by rw[hW7,zD,if_pos rfl,PK5.out];rfl);have PR7:=Lib.hid (F7.out.at PR6.out (by simp));have PF7:=Lib.hid (F7.out.at PF6.out (by simp;omega))
 have FIN:Hid (∀W8,Fr [pb+1] W7 W8→W8.ownsRow w.heap.size 117 6 (.slice (some ⟨g5,0,none⟩) j c5) j pre∧Fr [] w W8):=Lib.hid (fun W8 hF=>by
  have hb:=zN OR1.out;have hs:=HKS.out;have hp:=HPB.out
  have hF2:Fr [pb,pb+1] w5' W8:=by
   have h1:Fr [pb] w5' W7:=by rw[hW7];exact(Fr.refl [pb] w5').setCell (.inl (by simp)) _
   exact(h1.mono (by simp)).trans hF (by simp)
  refine⟨zr (zL OR1.out hF2 ?_) (by omega),(H6.out.trans FB1.out (by simp)).trans hF2 (by intro x hx;simp at hx;rcases hx with rfl|rfl<;>right<;>omega)⟩;intro x hx;have:g5=x:=by simpa[Value.ownBlock]using hx
  subst this
  simp;omega)
 clear hW7 OR1 k0 kf0 f0 f1 f2 f3 f4 f5 p0 p1 pf0 pf1 b1 hkl hkn1;have p0:=zA PK7.out (i:=0) rfl;have p1:=zA PK7.out (i:=1) rfl;have r0:=zA PR7.out (i:=0) rfl;have r1:=zA PR7.out (i:=1) rfl;have rf0:=zE PR7.out (i:=0);have rf1:=zE PR7.out (i:=1);have f0:=zA PF7.out (i:=0) rfl;have f1:=zA PF7.out (i:=1) rfl;have f2:=zA PF7.out (i:=2) rfl;have f3:=zA PF7.out (i:=3) rfl;have f4:=zA PF7.out (i:=4) rfl;have f5:=zA PF7.out (i:=5) rfl;cases hd with
 |false=>
  go_upto_region 6 with fail
  go_region_with (go_at_call 38;refine(none20_c _).mono ?_;rintro e w' ⟨rfl,rfl⟩)
  all_goals
   go_wp2;refine bodyPost_ret (ret_st3 rfl _ _ (pb+1) _ rfl (by first|(rw[zD,if_pos rfl,zD,if_pos rfl];erw [PR7.out];rfl)|(show blk (World.setCell (World.setCell _ _ _) _ _) _=_;rw[zD,if_pos rfl,zD,if_pos rfl];erw [PR7.out];rfl)) rfl zO zR) rfl ?_;exact⟨g5,c5,rfl,FIN.out _ ((((Fr.refl [pb+1] W7).setCell (.inl (by simp)) _).setCell (.inl (by simp)) _).drew)⟩
 |true=>
  go_upto_region 7 with fail
  go_region
  all_goals
   go_wp2;refine bodyPost_ret (ret_st3 rfl _ _ (pb+1) _ rfl (by first|(rw[zD,if_pos rfl,zD,if_pos rfl];erw [PR7.out];rfl)|(show blk (World.setCell (World.setCell _ _ _) _ _) _=_;rw[zD,if_pos rfl,zD,if_pos rfl];erw [PR7.out];rfl)) rfl zO zR) rfl ?_;exact⟨g5,c5,rfl,FIN.out _ ((((Fr.refl [pb+1] W7).setCell (.inl (by simp)) _).setCell (.inl (by simp)) _).drew)⟩
theorem doc_leave(w:World)(h:MdR X w s t k)(hX: ∀z,z∈X→z<w.heap.size)(hf:Fit k){p:PF}{l:List PF}(hk:k.fs=p::l):
 Calls Tryz.prog 34 #[.agg #[.slice s.a s.n s.cap,.slice t.a t.n t.cap]] w fun e w'=> ∃s':SV,e=.returned (.tuple #[.agg #[.slice s'.a s'.n s'.cap,.slice t.a t.n t.cap],.int .u64 (if(leaveM k).isSome=true then leaveW k else 45),.bool (leaveM k).isSome])∧MdR X w' s' t ((leaveM k).getD k)∧Fr [] w w':=by
 obtain⟨L,x,hL,hp,hb,hll⟩:=md_top h hk;have hx:=hb.2 x (by simp);have hm:L.length≤1000000:=by have:=hf.1;rw[hk]at this;simp at this;omega
 have CT:=ct_at (t:=t) hb hm;have hsn:=hb.1.ne;simp only[List.length_append,List.length_singleton]at hsn;have hxl:x.F.length=p.fr.length:=by have:=congrArg List.length hx.e;rw[hp]at this;simpa using this
 have no:(0<x.F.length∨s.n=1)→leaveM k=none→Calls Tryz.prog 34 #[.agg #[.slice s.a s.n s.cap,.slice t.a t.n t.cap]] w fun e w'=> ∃s':SV,e=.returned (.tuple #[.agg #[.slice s'.a s'.n s'.cap,.slice t.a t.n t.cap],.int .u64 (if(leaveM k).isSome=true then leaveW k else 45),.bool (leaveM k).isSome])∧MdR X w' s' t ((leaveM k).getD k)∧Fr [] w w':=by
  intro hi hn;refine(mleave_no w _ _ _ _ _ _ _ _ _ _ _ _ _ _ _ _ _ _ CT hi).mono ?_;rintro e w' ⟨rfl,hF⟩;rw[hn];exact⟨s,rfl,h.keep hF,hF⟩
 cases l with
 |nil=>
  refine no (by right;rw[hsn,hll];rfl) (by unfold leaveM;rw[hk])
 |cons q l'=>
  by_cases hfr:p.fr=[]
  ·have hn:leaveM k=some ⟨q::l',k.tk⟩:=by unfold leaveM;rw[hk];simp only;rw[if_pos hfr]
   have hw:(if x.p.h.isSome=true then x.ret else 45)=leaveW k:=by
    unfold leaveW BV.ret;rw[hk,hp];simp only;cases p.h<;>rfl
   have hx0:x.F.length=0:=by rw[hxl,hfr];rfl
   rw[hx0,hsn]at CT;have hcp:=hb.1.cp;rw[hsn]at hcp;have hd:=hb.1.take L.length (by simp);rw[show((L++[x]).flatMap BV.cells).take (L.length*6)=L.flatMap BV.cells by rw[List.flatMap_append,List.take_left' (flat_len _ 6 BV.len L)]]at hd;rw[hsn];refine(mleave_yes w L.length _ _ _ _ _ _ _ _ 0 _ _ _ _ _ _ _ _ CT (by simp at hll;omega) hm hcp.1 hcp.2 (L.flatMap BV.cells) (flat_len _ 6 BV.len L) (Lib.hid fun W hF=>by have h9:=Rd.news (hd.fr hF (S:=[]) (by simp));exact h9) (Lib.hid (zl _ BV.one L))).mono ?_;rintro e w' ⟨g,c,rfl,ho,hF⟩;rw[hn,hw];refine⟨⟨some ⟨g,0,none⟩,L.length,c⟩,rfl,⟨⟨L,hL,Rd.of_own ho (zl _ BV.one L) hX,fun y hy=>(hb.2 y (by simp[hy])).fr hF (by simp)⟩,(h.fr hF (by simp)).t⟩,hF⟩
  ·refine no (by left;rw[hxl];exact List.length_pos_iff.2 hfr) (by unfold leaveM;rw[hk];simp only;rw[if_neg hfr])
set_option maxRecDepth 100000 in
theorem mnew_c(w:World):Calls Tryz.prog 20 #[] w fun e w'=> ∃g,e=.returned (.agg #[.slice (some ⟨g,0,none⟩) 1 1,.slice none 0 0])∧w'.ownsRow w.heap.size 117 6 (.slice (some ⟨g,0,none⟩) 1 1) 1 [.slice none 0 0,.bool false,.bool false,.int .u64 0,.slice none 0 0,.slice none 0 0]∧Fr [] w w':=by
 go_enter Tryz.func20,Tryz.ntmps20;go_wp2;refine bodyPost_ret (ret_st rfl _ _ w.heap.size _ rfl (by rw[zB,if_neg (by rw[zC];omega),zB,if_pos rfl]) rfl zO zR) rfl ?_;refine⟨w.heap.size+1,rfl,own_mk (cur:= #[.slice none 0 0,.bool false,.bool false,.int .u64 0,.slice none 0 0,.slice none 0 0]) (by rw[zB,if_pos (by rw[zC])]) (by omega) (Nat.le_refl _) (by unfold maxLen;omega) rfl rfl,((Fr.refl _ _).alloc _).alloc _⟩
def newK:PK:=⟨[⟨[],none⟩],[]⟩
end
end Go.Proofs.YtghkahcogphomaaGreat
