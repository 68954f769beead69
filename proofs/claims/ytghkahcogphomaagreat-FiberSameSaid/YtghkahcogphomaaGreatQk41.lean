/- Fibers: a part of the walk. No condition. -/
import Derived.Test.YtghkahcogphomaaGreatQk40
set_option linter.all false
namespace Go.Proofs.YtghkahcogphomaaGreat
section
open Go.ChangeShapes Go.WideShapes Go.RowKit
variable{w w':World}{X X':List Nat}{s t:SV}{L:List BV}{x y:BV}{k:PK}
set_option maxRecDepth 100000 in
set_option maxHeartbeats 2000000 in
theorem mcln_yes(w:World)(i:Nat)(ma:Option Addr)(mn mc:Nat)(ka:Option Addr)(kn kc g0 o tn tc:Nat)(L:List BV)(hL:BsR X w ⟨ma,mn,mc⟩ L)(hX: ∀z,z∈X→z<w.heap.size)(hi:i<tn)(hc:tn≤tc)(htc:tn≤1000000)(hmn:mn≤1000000)(hs: ∀x,x∈L→SzF x)(hg:g0<w.heap.size)(RD:Hid (∀W,Fr [] w W→W.cell? ⟨g0,o+i*2,none⟩=some (.bool false)∧W.cell? ⟨g0,o+i*2+1,none⟩=some (.slice ma mn mc)))(ts:List Value)(hts:ts.length=tn*2)(NW3:Hid (∀W,Fr [] w W→tn=0∨∃ad,(some ⟨g0,o,none⟩:Option Addr)=some ad∧∀j u,ts[j]? =some u→W.cell? (ad.add j)=some u))(ONE:Hid (∀u,u∈ts→u.oneCell'=true)):
 Calls Tryz.prog 41 #[.agg #[.slice ka kn kc,.slice (some ⟨g0,o,none⟩) tn tc],.int .i64 (i:Int)] w fun e w'=> ∃(g1 c1 g2 c2:Nat) (Z:List BV),e=.returned (.tuple #[.agg #[.slice ka kn kc,.slice (some ⟨g2,0,none⟩) (tn+1) c2],.int .i64 0])∧BsR X w' ⟨some ⟨g1,0,none⟩,mn,c1⟩ Z∧Z.map BV.p=L.map BV.p∧w'.ownsRow w.heap.size 127 2 (.slice (some ⟨g2,0,none⟩) (tn+1) c2) (tn+1) (ts++[.bool false,.slice (some ⟨g1,0,none⟩) mn c1])∧Fr [] w w':=by
 have HL:=Lib.hid hL;have HB:=Lib.hid hX;have HS:=Lib.hid hs;have HTS:=Lib.hid hts;have HN:Hid (L.length=mn):=Lib.hid hL.1.ne.symm;obtain⟨i0,hii,hz0,hz1,hz2⟩:=info_parts info_t20b;have II:=Lib.hid hii;have Z0:=Lib.hid hz0;have Z1:=Lib.hid hz1;have Z2:=Lib.hid hz2;obtain⟨i1,hii1,hz01,hz11,hz21⟩:=info_parts info_t20r;have IR:=Lib.hid hii1;have Y0:=Lib.hid hz01;have Y1:=Lib.hid hz11;have Y2:=Lib.hid hz21;clear hii hz0 hz1 hz2 hii1 hz01 hz11 hz21 hL hX hs hts;obtain⟨W2,hW2⟩: ∃W,W=((w.alloc (.cells #[.slice ka kn kc,.slice (some ⟨g0,o,none⟩) tn tc] 40)).alloc (.cells #[.slice none 0 0,.slice none 0 0] 40)):=⟨_,rfl⟩;have FW2:Hid (Fr [] w W2):=Lib.hid (by rw[hW2];exact(((Fr.refl _ _).alloc _).alloc _));have PW20:Hid (blk W2 (w.heap.size)=some (.cells #[.slice ka kn kc,.slice (some ⟨g0,o,none⟩) tn tc] 40 (0,0))):=Lib.hid (by rw[hW2];simp only[zB,zC];rw[if_neg (by omega),if_pos trivial]);have PW21:Hid (blk W2 (w.heap.size+1)=some (.cells #[.slice none 0 0,.slice none 0 0] 40 (0,0))):=Lib.hid (by rw[hW2];simp only[zB,zC];rw[if_pos trivial]);obtain⟨pb,hpb⟩: ∃pb,pb=w.heap.size:=⟨_,rfl⟩;have HPB:=Lib.hid hpb;rw[←hpb]at PW20 PW21;have hl2:pb+1<W2.heap.size:=zF PW21.out;have hsz:W2.heap.size=pb+1+1:=by rw[hW2];simp only[zC];omega
 have hl20:pb<W2.heap.size:=by omega
 have C0:Hid (BpAt (pb::(pb+1)::X) w (W2.alloc (.cells #[] 117)) L 0 W2.heap.size 0 []):=Lib.hid (BpAt.start w L FW2.out);have F3:=Lib.hid ((Fr.refl [] W2).alloc (.cells #[] 117));have PB:=Lib.hid (F3.out.at PW20.out (by simp));have RB:=Lib.hid (F3.out.at PW21.out (by simp));have hne:pb≠W2.heap.size:=by omega
 have p0:=zA PW20.out (i:=0) rfl;have p1:=zA PW20.out (i:=1) rfl;have q1:=zA PB.out (i:=1) rfl;obtain⟨rd,_⟩:=RD.out _ FW2.out;obtain⟨rd0,rd1⟩:=RD.out _ (FW2.out.trans F3.out (by simp));have b0:decide ((i:Int)<0)=false:=by simp
 have b1:decide ((tn:Int)≤(i:Int))=false:=by simp;omega
 have hg3:g0<(W2.alloc (.cells #[] 117)).heap.size:=Nat.lt_of_lt_of_le hg (FW2.out.trans F3.out (by simp)).size;have hg4:g0<W2.heap.size:=Nat.lt_of_lt_of_le hg FW2.out.size;have hg5:g0≠W2.heap.size:=by omega
 go_enter Tryz.func41,Tryz.ntmps41;go_upto_region 1 with fail
 rw[←hW2]
 try rw[←hpb]
 clear hW2 hpb;go_upto_region 7 with fail
 obtain⟨W3,hW3⟩: ∃W3,W3=W2.alloc (.cells #[] 117):=⟨_,rfl⟩;obtain⟨gs,hgs⟩: ∃gs,gs=pb+1+1:=⟨_,rfl⟩;have hpg0:Hid (pb+1<gs):=Lib.hid (by omega);rw[←hW3,hsz,←hgs]at C0;rw[←hW3]at PB RB;rw[←hW3,←hgs];have b2:decide (tn≤i)=false:=by simp;omega
 rw[b2];clear b2;clear hW3 hgs p0 p1 q1 rd rd0 rd1 hne F3 PW20 PW21 hl2 hl20 hsz b0 b1 hg3 hg4 hg5;go_loopw [6,34] (fun l i wr=> ∃(j g c:Nat) (Z:List BV),j≤mn∧i=.int .i64 (j:Int)∧l=.slice (some ⟨g,0,none⟩) j c∧Hid (BpAt (pb::(pb+1)::X) w wr L j g c Z)∧Hid (blk wr pb=some (.cells #[.slice ka kn kc,.slice (some ⟨g0,o,none⟩) tn tc] 40 (0,0)))∧Hid (blk wr (pb+1)=some (.cells #[.slice none 0 0,.slice none 0 0] 40 (0,0)))∧Hid (pb+1<g)) (fun _ y _=>mn-(intOf y).toNat)
 case atStart=>exact⟨0,gs,0,[],Nat.zero_le _,rfl,rfl,C0,PB,RB,hpg0⟩
 case round=>
  obtain⟨j,g,c,Z,hj,rfl,rfl,hC,hPB,hRB,hpg⟩:=hrel;clear C0 PB RB hpg0;by_cases hlt:j<mn
  ·obtain⟨x,hx⟩: ∃x,L[j]? =some x:=⟨L[j]'(by rw[HN.out];exact hlt),by simp⟩;have HX:=Lib.hid hx;have HF:=Lib.hid hC.out.2.2.2.2
   obtain⟨gm,om,fa,la,qa,n,fc,ln,lc,qn,qc,hd,dp,ret,hma,hgl,a0,a1,a2,a3,a4,a5,CC⟩:=el_copy HL.out hx HF.out (HS.out x (List.mem_of_getElem? hx)) (g::pb::(pb+1)::X) (by
    intro z hz;have hb:=zN hC.out.2.2.1;have hp:=HPB.out;simp only[List.mem_cons]at hz;rcases hz with rfl|rfl|rfl|hz
    ·exact .inr hb
    ·right;omega
    ·right;omega
    ·exact .inl hz) (by
    intro z hz;have hb:=own_lt hC.out.2.2.1;have hp:=zF hRB.out;simp only[List.mem_cons]at hz;rcases hz with rfl|rfl|rfl|hz
    ·exact hb
    ·omega
    ·omega
    ·exact Nat.lt_of_lt_of_le (HB.out z hz) HF.out.size)
   have hma':ma=some ⟨gm,om,none⟩:=hma;have HMA:=Lib.hid hma';rw[hma'];clear hma hma' hx;go_upto_region 9 with fail
   obtain⟨W4,hW4⟩: ∃W4,W4=wr.alloc (.cells #[.slice fa n fc,.bool hd,.bool dp,.int .u64 ret,.slice la ln lc,.slice qa qn qc] 117):=⟨_,rfl⟩;obtain⟨kx,hkx⟩: ∃kx,kx=wr.heap.size:=⟨_,rfl⟩;have BXW4:Hid (blk W4 kx=some (.cells #[.slice fa n fc,.bool hd,.bool dp,.int .u64 ret,.slice la ln lc,.slice qa qn qc] 117 (0,0))):=Lib.hid (by rw[hW4,hkx];simp only[zB,if_true]);have FW4:Hid (Fr [] wr W4):=Lib.hid (by rw[hW4];exact(Fr.refl _ _).alloc _);rw[←hW4]
   try rw[←hkx]
   clear hW4 hkx a0 a1 a2 a3 a4 a5 hgl;have b0:=zA BXW4.out (i:=0) rfl;have b1:=zA BXW4.out (i:=1) rfl;have b2:=zA BXW4.out (i:=2) rfl;have b3:=zA BXW4.out (i:=3) rfl;have b4:=zA BXW4.out (i:=4) rfl;have b5:=zA BXW4.out (i:=5) rfl;go_upto_region 10 with(first|(go_at_call 75;refine(CC.out _ FW4.out).mono ?_;rintro e w5 ⟨g1,c1,rfl,hz5,hF5⟩;have FB5:Hid (Fr [] wr (w5.alloc (.cells #[.slice (some ⟨g1,0,none⟩) n c1,.bool hd,.bool dp,.int .u64 ret,.slice la ln lc,.slice qa qn qc] 117))):=Lib.hid ((FW4.out.trans hF5.out (by simp)).alloc _);have OZ:Hid ((w5.alloc (.cells #[.slice (some ⟨g1,0,none⟩) n c1,.bool hd,.bool dp,.int .u64 ret,.slice la ln lc,.slice qa qn qc] 117)).ownsRow w.heap.size 117 6 (.slice (some ⟨g,0,none⟩) j c) j (Z.flatMap BV.cells)):=Lib.hid (zL hC.out.2.2.1 FB5.out (by simp));have HSZ:Hid (w.heap.size≤(w5.alloc (.cells #[.slice (some ⟨g1,0,none⟩) n c1,.bool hd,.bool dp,.int .u64 ret,.slice la ln lc,.slice qa qn qc] 117)).heap.size):=Lib.hid (Nat.le_trans HF.out.size FB5.out.size);have NWZ:=Lib.hid (World.news_of_block (w:=w5.alloc (.cells #[.slice (some ⟨g1,0,none⟩) n c1,.bool hd,.bool dp,.int .u64 ret,.slice la ln lc,.slice qa qn qc] 117)) (B:=w5.heap.size) (show blk (World.alloc _ _) _=_ from by rw[zB,if_pos rfl]));clear CC)|(at_builtin;refine zj _ rfl _ _ _ rfl w.heap.size 117 i0 (.agg #[.slice none 0 0,.bool false,.bool false,.int .u64 0,.slice none 0 0,.slice none 0 0]) 6 96 Tryz.underlying37 II.out Z0.out Z1.out Z2.out rfl (by decide) g c j (Z.flatMap BV.cells) rfl OZ.out ⟨w5.heap.size,0,none⟩ 1 1 [.slice (some ⟨g1,0,none⟩) n c1,.bool hd,.bool dp,.int .u64 ret,.slice la ln lc,.slice qa qn qc] rfl rfl NWZ.out (by simp[Value.oneCell']) (by unfold maxLen;omega) (by omega) HSZ.out ?_;intro g9 c9 w9 own5 fr5 at5;have OW9:=Lib.hid own5;have F9:=Lib.hid fr5;have A9:=Lib.hid at5;clear own5 fr5 at5))
   have HGW:Hid (pb+1<g9):=Lib.hid (by
    have h1:=hpg.out;have h2:=zF hRB.out;have h3:=FB5.out.size;rcases A9.out with h|h<;>omega)
   have HPW:=Lib.hid (F9.out.at (FB5.out.at hPB.out (by simp)) (by have:=hpg.out;simp;omega));have HRW:=Lib.hid (F9.out.at (FB5.out.at hRB.out (by simp)) (by have:=hpg.out;simp;omega))
   have CW:Hid (∃Z',BpAt (pb::(pb+1)::X) w w9 L (j+1) g9 c9 Z'):=Lib.hid (by
    obtain⟨z',e1,e2,e3⟩:=hz5.out;exact⟨_,hC.out.next HX.out e1 e2 FB5.out (e3.fr ((Fr.refl [] w5).alloc _) (by simp)) OW9.out F9.out A9.out⟩)
   clear OZ FB5 HSZ NWZ b0 b1 b2 b3 b4 b5 OW9 F9 A9 BXW4 FW4 hC hPB hRB hpg hz5 hF5 HX HF
   obtain⟨Z',CZ⟩: ∃Z',Hid (BpAt (pb::(pb+1)::X) w w9 L (j+1) g9 c9 Z'):=by
    obtain⟨Z',h⟩:=CW.out;exact⟨Z',Lib.hid h⟩
   clear CW;go_wp2_with fail;go_roundw
   case rel=>exact⟨j+1,g9,c9,_,by omega,by rw[Int.natCast_add];rfl,rfl,CZ,HPW,HRW,HGW⟩
   case measure=>show mn-((j:Int)+1).toNat<mn-(j:Int).toNat;omega
  ·obtain rfl:j=mn:=by omega
   have HF:=Lib.hid hC.out.2.2.2.2
   have BB:=Lib.hid (hC.out.bs HN.out (by
    have hp:=HPB.out;have hq:=hpg.out;intro hz;simp only[List.mem_cons]at hz;rcases hz with hz|hz|hz
    ·omega
    ·omega
    ·have:=HB.out g hz;have:=zN hC.out.2.2.1;omega))
   have OW1:Hid ((wr.alloc (.cells #[] 127)).ownsRow wr.heap.size 127 2 (.slice (some ⟨wr.heap.size,0,none⟩) 0 0) 0 []):=Lib.hid (own_mk (cur:= #[]) (by rw[zB,if_pos rfl]) (Nat.le_refl _) (Nat.le_refl _) (Nat.zero_le _) rfl rfl);have FA1:=Lib.hid ((Fr.refl [] wr).alloc (.cells #[] 127));have PA1:=Lib.hid (FA1.out.at hPB.out (by simp));have k1:=zA PA1.out (i:=1) rfl;have NW1:=Lib.hid (NW3.out _ (HF.out.trans FA1.out (by simp)));have hkl:=zF hPB.out;have hkn1:pb≠wr.heap.size:=by omega
   have tok:Hid True:=Lib.hid trivial;go_upto_region 12 with(first|(clear tok;at_builtin;refine zQ _ rfl _ _ _ rfl wr.heap.size 127 i1 (.agg #[.bool false,.slice none 0 0]) 2 32 Tryz.underlying38 IR.out Y0.out Y1.out Y2.out rfl (by decide) wr.heap.size 0 0 [] rfl OW1.out (some ⟨g0,o,none⟩) tn tc ts rfl HTS.out NW1.out ONE.out (by unfold maxLen;omega) (by omega) FA1.out.size ?_;intro g5 c5 w5 own5 fr5 at5;rw[Nat.zero_add,List.nil_append]at own5;rw[Nat.zero_add];have FB1:=Lib.hid (FA1.out.trans fr5 (fun x hx=> .inr (by simp only[List.mem_singleton]at hx;omega)));have OR1:Hid ((w5.alloc (.cells #[.bool false,.slice (some ⟨g,0,none⟩) j c] 127)).ownsRow wr.heap.size 127 2 (.slice (some ⟨g5,0,none⟩) tn c5) tn ts):=Lib.hid (zL own5 ((Fr.refl [] w5).alloc _) (by simp));have FB5:Hid (Fr [] wr (w5.alloc (.cells #[.bool false,.slice (some ⟨g,0,none⟩) j c] 127))):=Lib.hid (FB1.out.alloc _);have NWZ:=Lib.hid (World.news_of_block (w:=w5.alloc (.cells #[.bool false,.slice (some ⟨g,0,none⟩) j c] 127)) (B:=w5.heap.size) (show blk (World.alloc _ _) _=_ from by rw[zB,if_pos rfl]));clear own5 fr5 at5 OW1 FA1)|(at_builtin;refine zj _ rfl _ _ _ rfl wr.heap.size 127 i1 (.agg #[.bool false,.slice none 0 0]) 2 32 Tryz.underlying38 IR.out Y0.out Y1.out Y2.out rfl (by decide) g5 c5 tn ts rfl OR1.out ⟨w5.heap.size,0,none⟩ 1 1 [.bool false,.slice (some ⟨g,0,none⟩) j c] rfl rfl NWZ.out (by simp[Value.oneCell']) (by unfold maxLen;omega) (by omega) FB5.out.size ?_;intro g7 c7 w7 own7 fr7 at7;have OR7:=Lib.hid own7;have F7:=Lib.hid fr7;have A7:=Lib.hid at7;have G7:Hid (Fr [] wr w7):=Lib.hid (FB5.out.trans fr7 (fun x hx=> .inr (by simp only[List.mem_singleton]at hx;have:=zN OR1.out;omega)));clear own7 fr7 at7;have PK7:=Lib.hid (G7.out.at hPB.out (by simp));have m0:=zA PK7.out (i:=0) rfl;have m1:=zA PK7.out (i:=1) rfl;have mf1:=zE PK7.out (i:=1)))
   obtain⟨W8,hW8⟩: ∃W,W=w7.setCell ⟨pb,1,none⟩ (.slice (some ⟨g7,0,none⟩) (tn+1) c7):=⟨_,rfl⟩;rw[←hW8];have hb7:=zN OR7.out;have F8:Hid (Fr [pb] w7 W8):=Lib.hid (by rw[hW8];exact(Fr.refl [pb] w7).setCell (.inl (by simp)) _);have PK8:Hid (blk W8 pb=some (.cells #[.slice ka kn kc,.slice (some ⟨g7,0,none⟩) (tn+1) c7] 40 (0,0))):=Lib.hid (by rw[hW8,zD,if_pos rfl,PK7.out];rfl);have PR8:=Lib.hid (F8.out.at (G7.out.at hRB.out (by simp)) (by simp));clear hW8 m0 m1 mf1 k1;have m0:=zA PK8.out (i:=0) rfl;have m1:=zA PK8.out (i:=1) rfl;have r0:=zA PR8.out (i:=0) rfl;have r1:=zA PR8.out (i:=1) rfl;have rf0:=zE PR8.out (i:=0);have rf1:=zE PR8.out (i:=1);go_wp2;refine bodyPost_ret (ze rfl _ _ (pb+1) _ rfl (by rw[zD,if_pos rfl,zD,if_pos rfl,PR8.out];rfl) rfl zO zR) rfl ?_;have hp:=HPB.out;have hsw:=HF.out.size
   have FIN: ∀W',Fr [pb+1] W8 W'→BsR X W' ⟨some ⟨g,0,none⟩,j,c⟩ Z∧Z.map BV.p=L.map BV.p∧W'.ownsRow w.heap.size 127 2 (.slice (some ⟨g7,0,none⟩) (tn+1) c7) (tn+1) (ts++[.bool false,.slice (some ⟨g,0,none⟩) j c])∧Fr [] w W':=fun W' h=>by
    have hE:Fr [pb,pb+1] w7 W':=(F8.out.mono (by simp)).trans h (by simp);refine⟨((BB.out.1.fr (S:=[]) G7.out (fun x hx=>nomatch hx)).fr (S:=[pb,pb+1]) hE (by intro x hx;simp at hx;rcases hx with rfl|rfl<;>simp)).blocks (fun x hx=> .inl (List.mem_cons_of_mem _ (List.mem_cons_of_mem _ hx))),BB.out.2,zr (zL OR7.out hE ?_) (by omega),(HF.out.trans G7.out (by simp)).trans hE (by intro x hx;simp at hx;right;omega)⟩;intro q hq;have:g7=q:=by simpa[Value.ownBlock]using hq
    subst this;have:=zF hRB.out
    simp;omega
   exact⟨g,c,g7,c7,rfl,Z,FIN _ (((Fr.refl [pb+1] W8).setCell (.inl (by simp)) _).setCell (.inl (by simp)) _)⟩
def FitP(p:PF):Prop:=p.fr.length≤100000000∧∀f,f∈p.fr→f.slots.length≤240∧f.words.length≤240
def FitT(k:PK):Prop:=k.tk.length≤1000000∧∀l,some l∈k.tk→l.length≤1000000∧∀p,p∈l→FitP p
theorem fitP_sz{p:PF}(hf:FitP p)(hx:x.Ok X w)(hp:x.p=p):SzF x:=by
 obtain⟨h1,h2⟩:=hf;have he:=hx.e;rw[hp]at he;refine⟨?_,fun z hz=> ?_⟩
 ·have:=congrArg List.length he;simp at this;omega
 ·have hm:z.f∈p.fr:=by
   have:z.f∈x.F.map FV.f:=List.mem_map.2 ⟨z,hz,rfl⟩;rw[he]at this;simpa using this
  obtain⟨q1,q2⟩:=h2 _ hm;exact⟨by omega,by omega⟩
theorem flat_take{α:Type}(c:α→List Value)(n:Nat)(hc: ∀x,(c x).length=n)(L:List α)(k:Nat)(hk:k≤L.length):(L.flatMap c).take (k*n)=(L.take k).flatMap c:=by
 have e:L.flatMap c=(L.take k).flatMap c++(L.drop k).flatMap c:=by rw[←List.flatMap_append,List.take_append_drop]
 rw[e,List.take_left'];rw[flat_len c n hc,List.length_take,Nat.min_eq_left hk]
theorem flat_set2(z:QV): ∀(Q:List QV) (i:Nat),(Q.set i z).flatMap QV.cells=((Q.flatMap QV.cells).set (i*2) (.bool z.t.isNone)).set (i*2+1) z.s.v:=by
 intro Q
 induction Q with
 |nil=>intro i;simp
 |cons q Q ih=>
  intro i;cases i with
  |zero=>rfl
  |succ i=>
   rw[List.set_cons_succ,List.flatMap_cons,ih i,List.flatMap_cons];rw[show(i+1)*2=i*2+1+1 by omega];simp[QV.cells]
theorem md_took(h:MdR X w s t k){i:Nat}{l:List PF}(hq:k.tk[i]? =some (some l)): ∃(Q:List QV) (M:List BV) (m:SV) (g o:Nat),Q.map QV.t=k.tk∧QsR X w t Q∧M.map BV.p=l.reverse∧BsR X w m M∧t.a=some ⟨g,o,none⟩∧g<w.heap.size∧w.cell? ⟨g,o+i*2,none⟩=some (.bool false)∧w.cell? ⟨g,o+i*2+1,none⟩=some (.slice m.a m.n m.cap):=by
 obtain⟨Q,h1,h2⟩:=h.t;have h1':=h1;rw[←h1,List.getElem?_map]at hq;cases hz:Q[i]? with
 |none=>rw[hz]at hq;cases hq
 |some z=>
  rw[hz]at hq;injection hq with hq
  obtain⟨g,o,e1,e2,e3,e4⟩:=h2.el hz;rw[hq]at e3;have hok:=h2.2 z (List.mem_of_getElem? hz);unfold QV.Ok at hok;rw[hq]at hok;exact⟨Q,z.L,z.s,g,o,h1',h2,hok.1,hok.2,e1,e2,e3,e4⟩
theorem news_at{n size:Nat}{cs:List Value}(h:Rd X w s n size cs):Hid (∀W,Fr [] w W→n=0∨∃ad,s.a=some ad∧∀j u,cs[j]? =some u→W.cell? (ad.add j)=some u):=Lib.hid (fun W hF=>Rd.news (h.fr (S:=[]) hF (fun x hx=>nomatch hx)))
theorem took_cases(k:PK)(n:Int):(tookM k n=none∧(n<0∨(k.tk.length:Int)≤n))∨∃i:Nat,n=i∧i<k.tk.length∧∃q,k.tk[i]? =some q∧tookM k n=some q:=by
 unfold tookM;by_cases hc:n<0∨(k.tk.length:Int)≤n
 ·rw[if_pos hc];exact .inl ⟨rfl,hc⟩
 ·rw[if_neg hc];obtain⟨i,rfl⟩: ∃i:Nat,n=i:=⟨n.toNat,by omega⟩;refine .inr ⟨i,rfl,by omega,k.tk[i]'(by omega),by simp, ?_⟩;rw[Int.toNat_natCast]
  simp
theorem doc_resume(w:World)(n:Int)(h:MdR X w s t k)(hX: ∀z,z∈X→z<w.heap.size)(hf:Fit k)(ht:FitT k)(hne:k.fs≠[]):
 Calls Tryz.prog 39 #[.agg #[.slice s.a s.n s.cap,.slice t.a t.n t.cap],.int .i64 n] w fun e w'=> ∃s' t':SV,e=.returned (.tuple #[.agg #[.slice s'.a s'.n s'.cap,.slice t'.a t'.n t'.cap],.int .i64 (resM n k).2])∧MdR X w' s' t' (resM n k).1∧Fr [] w w':=by
 have htn:=md_tk h;rcases took_cases k n with⟨e1,e2⟩|⟨i,rfl,hi,q,e1,e2⟩
 ·refine(mres_no w n _ _ _ _ _ _ (by rw[htn];exact e2)).mono ?_;rintro e w' ⟨rfl,hF⟩;unfold resM;rw[e1];exact⟨s,t,rfl,h.keep hF,hF⟩
 ·have hcp:t.n≤t.cap:=by obtain⟨Q,_,hq⟩:=h.t;exact hq.1.cp.1
  have hle:=ht.1;cases q with
  |none=>
   obtain⟨g,o,h1,h2,h3⟩:=md_used h e1;rw[h1];refine(mres_used w i g o _ _ _ _ _ (by omega) hcp (by omega) h2 (Lib.hid fun W hW=>zd h3 hW (by simp))).mono ?_;rintro e w' ⟨rfl,hF⟩;unfold resM;rw[e2];exact⟨s,t,by rw[h1],h.keep hF,hF⟩
  |some l2=>
   obtain⟨p,l,hk⟩: ∃p l,k.fs=p::l:=by cases hk:k.fs with|nil=>exact absurd hk hne|cons p l=>exact⟨p,l,rfl⟩
   obtain⟨L,x,hL,hp,hb,hll⟩:=md_top h hk;have hx:=hb.2 x (by simp);have hm:L.length≤1000000:=by have:=hf.1;rw[hk]at this;simp at this;omega
   have hsn:=hb.1.ne;have hkn:s.n≤1000000:=by have:=hf.1;have:=md_fs h;omega
   have hxl:x.F.length=p.fr.length:=by have:=congrArg List.length hx.e;rw[hp]at this;simpa using this
   obtain⟨Q,M,m,g,o,hQ,hq,hM,hmb,h1,h2,h3,h4⟩:=md_took h e1;have CT:=ct_at (t:=t) hb hm;obtain⟨hl1,_⟩:=ht.2 l2 (List.mem_of_getElem? e1);have hMl:M.length=l2.length:=by have:=congrArg List.length hM;simpa using this
   have NW3:=news_at hq.1;have hQl:Q.length=t.n:=hq.1.ne.symm;rw[h1]at CT NW3⊢;rw[←hQl]at htn CT hcp⊢;have hmn:=hmb.1.ne;rw[hmn]at h4;have hpre:=flat_len BV.cells 6 BV.len (L++[x]);rw[←hsn]at hpre;have NW1:=news_at hb.1;rw[←hsn]at NW1;refine(mres_yes w i m.a M.length m.cap s.a s.n s.cap g o Q.length t.cap _ _ _ _ _ _ _ _ _ _ _ _ CT (by omega) hcp (by omega) hkn (by omega) h2 (Lib.hid fun W hW=>⟨zd h3 hW (by simp),zd h4 hW (by simp)⟩) ((L++[x]).flatMap BV.cells) (M.flatMap BV.cells) (Q.flatMap QV.cells) hpre (flat_len _ 6 BV.len _) (flat_len _ 2 QV.len _) NW1 (news_at hmb.1) NW3 (Lib.hid ⟨zl _ BV.one _,zl _ BV.one _,zl _ QV.one _⟩) _ rfl).mono ?_;rintro e w' ⟨g1,c1,g2,c2,rfl,o1,o2,hF⟩;unfold resM;rw[e2];obtain⟨kk,hkk⟩: ∃kk,kk=(if x.p.h.isSome=false∧x.F.length=0∧1<s.n then s.n-1 else s.n):=⟨_,rfl⟩;rw[←hkk]at o1⊢;have hkle:kk≤(L++[x]).length:=by rw[←hsn,hkk];split<;>omega
   have hon:((L++[x]).take kk).map BV.p=(ontoP k.fs).reverse:=by
    rw[hkk,hk,hsn];simp only[List.length_append,List.length_singleton];cases l with
    |nil=>
     simp only[List.length_nil]at hll;rw[if_neg (by omega),List.take_of_length_le (by simp),List.map_append,hL];simp[ontoP,hp]
    |cons p2 l'=>
     simp only[List.length_cons]at hll;have eo:ontoP (p::p2::l')=if p.h=none∧p.fr=[]then p2::l' else p::p2::l':=rfl
     rw[eo];by_cases hc:p.h=none∧p.fr=[]
     ·rw[if_pos ⟨by rw[hp,hc.1];rfl,by rw[hxl,hc.2];rfl,by omega⟩,if_pos hc,Nat.add_sub_cancel,List.take_left' rfl,hL]
     ·rw[if_neg hc,if_neg,List.take_of_length_le (by simp),List.map_append,hL]
      ·simp[hp]
      ·rintro⟨q1,q2,_⟩;refine hc ⟨?_,List.eq_nil_of_length_eq_zero (by rw[←hxl];exact q2)⟩;rw[hp]at q1;cases hh:p.h with
       |none=>rfl
       |some H=>rw[hh]at q1;cases q1
   have hlen:((L++[x]).take kk++M).length=kk+M.length:=by rw[List.length_append,List.length_take,Nat.min_eq_left hkle]
   rw[flat_take _ 6 BV.len _ _ hkle,←List.flatMap_append]at o1;refine⟨⟨some ⟨g1,0,none⟩,kk+M.length,c1⟩,⟨some ⟨g2,0,none⟩,Q.length,c2⟩,rfl,⟨⟨(L++[x]).take kk++M, ?_, ?_, ?_⟩,⟨Q.set i ⟨none,[],SV.none⟩, ?_, ?_, ?_⟩⟩,hF⟩
   ·rw[List.map_append,hon,hM,List.reverse_append]
   ·rw[hlen];exact Rd.of_own o1 (zl _ BV.one _) hX
   ·intro z hz;rcases List.mem_append.1 hz with hz|hz
    ·exact(hb.2 z (List.mem_of_mem_take hz)).fr (S:=[]) hF (fun x hx=>nomatch hx)
    ·exact(hmb.2 z hz).fr (S:=[]) hF (fun x hx=>nomatch hx)
   ·rw[List.map_set,hQ,Int.toNat_natCast]
   ·rw[List.length_set,flat_set2];refine Rd.of_own o2 ?_ hX;rw[←flat_set2 ⟨none,[],SV.none⟩ Q i];exact zl _ QV.one _
   ·intro z hz;rcases List.mem_or_eq_of_mem_set hz with hz|rfl
    ·exact(hq.2 z hz).fr (S:=[]) hF (fun x hx=>nomatch hx)
    ·rfl
theorem doc_clone(w:World)(n:Int)(h:MdR X w s t k)(hX: ∀z,z∈X→z<w.heap.size)(ht:FitT k):
 Calls Tryz.prog 41 #[.agg #[.slice s.a s.n s.cap,.slice t.a t.n t.cap],.int .i64 n] w fun e w'=> ∃t':SV,e=.returned (.tuple #[.agg #[.slice s.a s.n s.cap,.slice t'.a t'.n t'.cap],.int .i64 (clnM n k).2])∧MdR X w' s t' ((clnM n k).1.getD k)∧Fr [] w w':=by
 have htn:=md_tk h;rcases took_cases k n with⟨e1,e2⟩|⟨i,rfl,hi,q,e1,e2⟩
 ·refine(mcln_no w n _ _ _ _ _ _ (by rw[htn];exact e2)).mono ?_;rintro e w' ⟨rfl,hF⟩;unfold clnM;rw[e1];exact⟨t,rfl,h.keep hF,hF⟩
 ·have hcp:t.n≤t.cap:=by obtain⟨Q,_,hq⟩:=h.t;exact hq.1.cp.1
  have hle:=ht.1;cases q with
  |none=>
   obtain⟨g,o,h1,h2,h3⟩:=md_used h e1;rw[h1];refine(mcln_used w i g o _ _ _ _ _ (by omega) hcp (by omega) h2 (Lib.hid fun W hW=>zd h3 hW (by simp))).mono ?_;rintro e w' ⟨rfl,hF⟩;unfold clnM;rw[e2];exact⟨t,by rw[h1],h.keep hF,hF⟩
  |some l2=>
   obtain⟨Q,M,m,g,o,hQ,hq,hM,hmb,h1,h2,h3,h4⟩:=md_took h e1;obtain⟨hl1,hl2⟩:=ht.2 l2 (List.mem_of_getElem? e1);have hMl:M.length=l2.length:=by have:=congrArg List.length hM;simpa using this
   have NW3:=news_at hq.1;have hQl:Q.length=t.n:=hq.1.ne.symm;rw[h1]at NW3⊢;rw[←hQl]at htn hcp⊢;have hmn:=hmb.1.ne;have hml:m.n≤1000000:=by omega
   refine(mcln_yes w i m.a m.n m.cap s.a s.n s.cap g o Q.length t.cap M hmb hX (by omega) hcp (by omega) hml ?_ h2 (Lib.hid fun W hW=>⟨zd h3 hW (by simp),zd h4 hW (by simp)⟩) (Q.flatMap QV.cells) (flat_len _ 2 QV.len _) NW3 (Lib.hid (zl _ QV.one _))).mono ?_
   ·intro z hz
    have hzp:z.p∈l2:=by
     have:z.p∈M.map BV.p:=List.mem_map.2 ⟨z,hz,rfl⟩;rw[hM]at this;simpa using this
    exact fitP_sz (hl2 _ hzp) (hmb.2 z hz) rfl
   ·rintro e w' ⟨g1,c1,g2,c2,Z,rfl,z1,z2,o2,hF⟩;unfold clnM;rw[e2];refine⟨⟨some ⟨g2,0,none⟩,Q.length+1,c2⟩,rfl,⟨(h.keep hF).f,⟨Q++[⟨some l2,Z,⟨some ⟨g1,0,none⟩,m.n,c1⟩⟩], ?_, ?_, ?_⟩⟩,hF⟩
    ·rw[List.map_append,hQ];rfl
    ·rw[List.length_append,List.length_singleton,List.flatMap_append];exact Rd.of_own o2 (by rw[←List.flatMap_append];exact zl _ QV.one _) hX
    ·intro z hz;rcases List.mem_append.1 hz with hz|hz
     ·exact(hq.2 z hz).fr (S:=[]) hF (fun x hx=>nomatch hx)
     ·simp at hz;subst hz;exact⟨by rw[z2,hM],z1⟩
end
end Go.Proofs.YtghkahcogphomaaGreat
