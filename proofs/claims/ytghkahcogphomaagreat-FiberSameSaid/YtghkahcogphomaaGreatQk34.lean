/- Fibers: a part of the walk. No condition. -/
import Derived.Test.YtghkahcogphomaaGreatQk33
set_option linter.all false
namespace Go.Proofs.YtghkahcogphomaaGreat
section
open Go.ChangeShapes Go.WideShapes Go.RowKit
variable{w w':World}{X X':List Nat}{s t:SV}{L:List BV}{x y:BV}{k:PK}
def CpAt(X:List Nat)(w0 w:World)(F:List FV)(j:Nat)(g c:Nat)(Z:List FV):Prop:=Z.length=j∧Z.map FV.f=(F.take j).map FV.f∧w.ownsRow w0.heap.size 100 5 (.slice (some ⟨g,0,none⟩) j c) j (Z.flatMap FV.cells)∧(∀z,z∈Z→z.Ok (g::X) w)∧Fr [] w0 w
theorem CpAt.start(w0:World){w:World}(F:List FV)(hF:Fr [] w0 w):CpAt X w0 (w.alloc (.cells #[] 100)) F 0 w.heap.size 0 []:=
 ⟨rfl,by simp,own_mk (cur:= #[]) (by rw[zB,if_pos rfl]) hF.size (Nat.le_refl _) (Nat.zero_le _) rfl rfl,by simp,hF.alloc _⟩
theorem CpAt.next{w0 w wb w':World}{F Z:List FV}{j g c g' c':Nat}{z z':FV}(h:CpAt X w0 w F j g c Z)(hz:F[j]? =some z)(e:z'.f=z.f)(hb:Fr [] w wb)(hok:z'.Ok (g::X) wb)(ho:w'.ownsRow w0.heap.size 100 5 (.slice (some ⟨g',0,none⟩) (j+1) c') (j+1) (Z.flatMap FV.cells++z'.cells))(hF:Fr [g] wb w')(hg':g'=g∨wb.heap.size≤g'):CpAt X w0 w' F (j+1) g' c' (Z++[z']):=by
 obtain⟨h1,h2,h3,h4,h5⟩:=h;have hg:=zN h3
 have all: ∀q,q∈Z++[z']→q.Ok (g'::X) w':=by
  intro q hq
  have hqb:q.Ok (g::X) wb:=by
   rcases List.mem_append.1 hq with hq|hq
   ·exact(h4 q hq).fr hb (by simp)
   ·simp at hq;subst hq;exact hok
  have h1:q.Ok (g'::g::X) wb:=hqb.blocks (fun x hx=>by
   rcases List.mem_cons.1 hx with rfl|hx
   ·rcases hg' with h|h
    ·left;rw[h];simp
    ·exact .inr h
   ·exact .inl hx)
  exact(h1.fr hF (by simp)).blocks (fun x hx=> .inl (by
   rcases List.mem_cons.1 hx with rfl|hx
   ·simp
   ·simp[hx]))
 refine⟨by simp[h1], ?_, ?_,all,(h5.trans hb (by simp)).trans hF (fun x hx=> .inr (by simp at hx;omega))⟩
 ·rw[List.take_add_one,hz];simp[h2,e]
 ·simpa using ho
set_option maxRecDepth 100000 in
set_option maxHeartbeats 2000000 in
theorem r20Copy_c(w:World)(x:BV)(hx:x.Ok X w)(hX: ∀z,z∈X→z<w.heap.size)(hn:x.F.length≤100000000)(hs: ∀z,z∈x.F→z.f.slots.length≤1000∧z.f.words.length≤1000):
 Calls Tryz.prog 75 #[x.val] w fun e w'=> ∃(g c:Nat) (Z:List FV),e=.returned (BV.val ⟨x.p,Z,⟨some ⟨g,0,none⟩,x.F.length,c⟩,x.l,x.q⟩)∧CpAt X w w' x.F x.F.length g c Z:=by
 have HX:=Lib.hid hx;have HB:=Lib.hid hX;have HS:=Lib.hid hs;have hfn:=hx.f.1.ne;obtain⟨n,hnl⟩: ∃n,n=x.F.length:=⟨_,rfl⟩;have HN:=Lib.hid hnl;rw[←hnl]at hn hfn⊢;unfold BV.val;rw[hfn];obtain⟨W2,hW2⟩: ∃W,W=((w.alloc (.cells #[.slice x.fr.a n x.fr.cap,.bool x.p.h.isSome,.bool x.deep,.int .u64 x.ret,.slice x.l.a x.l.n x.l.cap,.slice x.q.a x.q.n x.q.cap] 117)).alloc (.cells #[.slice none 0 0,.bool false,.bool false,.int .u64 0,.slice none 0 0,.slice none 0 0] 117)):=⟨_,rfl⟩;have FW2:Hid (Fr [] w W2):=Lib.hid (by rw[hW2];exact(((Fr.refl _ _).alloc _).alloc _));have PW20:Hid (blk W2 (w.heap.size)=some (.cells #[.slice x.fr.a n x.fr.cap,.bool x.p.h.isSome,.bool x.deep,.int .u64 x.ret,.slice x.l.a x.l.n x.l.cap,.slice x.q.a x.q.n x.q.cap] 117 (0,0))):=Lib.hid (by rw[hW2];simp only[zB,zC];rw[if_neg (by omega),if_pos trivial]);have PW21:Hid (blk W2 (w.heap.size+1)=some (.cells #[.slice none 0 0,.bool false,.bool false,.int .u64 0,.slice none 0 0,.slice none 0 0] 117 (0,0))):=Lib.hid (by rw[hW2];simp only[zB,zC];rw[if_pos trivial]);obtain⟨pb,hpb⟩: ∃pb,pb=w.heap.size:=⟨_,rfl⟩;have HPB:=Lib.hid hpb;rw[←hpb]at PW20 PW21;have hl2:pb+1<W2.heap.size:=zF PW21.out;have hsz:W2.heap.size=pb+1+1:=by rw[hW2];simp only[zC];omega
 have hl20:pb<W2.heap.size:=by omega
 have C0:Hid (CpAt (pb::(pb+1)::X) w (W2.alloc (.cells #[] 100)) x.F 0 W2.heap.size 0 []):=Lib.hid (CpAt.start w x.F FW2.out);have F3:=Lib.hid ((Fr.refl [] W2).alloc (.cells #[] 100));have PB:=Lib.hid (F3.out.at PW20.out (by simp));have RB:=Lib.hid (F3.out.at PW21.out (by simp));have hne:pb≠W2.heap.size:=by omega
 have p0:=zA PW20.out (i:=0) rfl;clear hx hX hs hnl hfn;go_enter Tryz.func75,Tryz.ntmps75;go_upto_region 3 with fail
 rw[←hW2]
 try rw[←hpb]
 obtain⟨W3,hW3⟩: ∃W3,W3=W2.alloc (.cells #[] 100):=⟨_,rfl⟩;obtain⟨g0,hg0⟩: ∃g0,g0=pb+1+1:=⟨_,rfl⟩;have hpg0:Hid (pb+1<g0):=Lib.hid (by omega);rw[←hW3,hsz,←hg0]at C0;rw[←hW3]at PB RB;rw[←hW3,←hg0];clear hW2 hpb hW3 hg0 p0 hne F3 PW20 PW21 hl2 hl20 hsz;obtain⟨i0,hii,hz0,hz1,hz2⟩:=info_parts info_t20f;have II:=Lib.hid hii;have Z0:=Lib.hid hz0;have Z1:=Lib.hid hz1;have Z2:=Lib.hid hz2;obtain⟨i1,hii1,hz01,hz11,hz21⟩:=info_parts info_wd;have IW:=Lib.hid hii1;have Y0:=Lib.hid hz01;have Y1:=Lib.hid hz11;have Y2:=Lib.hid hz21;clear hii hz0 hz1 hz2 hii1 hz01 hz11 hz21;go_loopw [3,10] (fun l i wr=> ∃(j g c:Nat) (Z:List FV),j≤n∧i=.int .i64 (j:Int)∧l=.slice (some ⟨g,0,none⟩) j c∧Hid (CpAt (pb::(pb+1)::X) w wr x.F j g c Z)∧Hid (blk wr pb=some (.cells #[.slice x.fr.a n x.fr.cap,.bool x.p.h.isSome,.bool x.deep,.int .u64 x.ret,.slice x.l.a x.l.n x.l.cap,.slice x.q.a x.q.n x.q.cap] 117 (0,0)))∧Hid (blk wr (pb+1)=some (.cells #[.slice none 0 0,.bool false,.bool false,.int .u64 0,.slice none 0 0,.slice none 0 0] 117 (0,0)))∧Hid (pb+1<g)) (fun _ y _=>n-(intOf y).toNat)
 case atStart=>exact⟨0,g0,0,[],Nat.zero_le _,rfl,rfl,C0,PB,RB,hpg0⟩
 case round=>
  obtain⟨j,g,c,Z,hj,rfl,rfl,hC,hPB,hRB,hpg⟩:=hrel;clear C0 PB RB hpg0;by_cases hlt:j<n
  ·obtain⟨z,hz⟩: ∃z,x.F[j]? =some z:=⟨x.F[j]'(by rw[←HN.out];exact hlt),by simp⟩;have hzm:z∈x.F:=List.mem_of_getElem? hz;obtain⟨gs,os,hsa,hsl,a0,a1,a2,a3,a4⟩:=HX.out.f.el hz;obtain⟨s1,s2⟩:=HS.out z hzm;have hF:=Lib.hid hC.out.2.2.2.2;have c0:=zd a0 hF.out (by simp);have c1:=zd a1 hF.out (by simp);have c2:=zd a2 hF.out (by simp);have c3:wr.cell? ⟨gs,os+j*5+3,none⟩=some (.slice z.s.a z.s.n z.s.cap):=zd a3 hF.out (by simp);have c4:wr.cell? ⟨gs,os+j*5+4,none⟩=some (.slice z.q.a z.q.n z.q.cap):=zd a4 hF.out (by simp);have KO:=Lib.hid (HX.out.f.2 z hzm);have hn1:z.s.n=z.f.slots.length:=KO.out.1.ne;have hn2:z.q.n=z.f.words.length:=KO.out.2.ne;have HZ:=Lib.hid hz;obtain⟨sl,hsl2⟩: ∃sl,sl=z.f.slots:=⟨_,rfl⟩;obtain⟨wl,hwl⟩: ∃wl,wl=z.f.words:=⟨_,rfl⟩;obtain⟨sa,sc,hsv⟩: ∃sa sc,z.s=⟨sa,sl.length,sc⟩:=⟨z.s.a,z.s.cap,by rw[hsl2,←hn1]⟩;obtain⟨qa,qc,hqv⟩: ∃qa qc,z.q=⟨qa,wl.length,qc⟩:=⟨z.q.a,z.q.cap,by rw[hwl,←hn2]⟩;have WS:Hid (WsR X w ⟨sa,sl.length,sc⟩ sl):=Lib.hid (by have:=KO.out.1;rw[hsv,←hsl2]at this;exact this);have WQ:Hid (WsR X w ⟨qa,wl.length,qc⟩ wl):=Lib.hid (by have:=KO.out.2;rw[hqv,←hwl]at this;exact this);rw[hsv]at c3;rw[hqv]at c4;obtain⟨cl,hcl⟩: ∃cl,cl=z.f.cl:=⟨_,rfl⟩;obtain⟨pc,hpc⟩: ∃pc,pc=z.f.pc:=⟨_,rfl⟩;obtain⟨rm,hrm⟩: ∃rm:Int,rm=(z.f.room:Int):=⟨_,rfl⟩;have EZ:Hid (sl=z.f.slots∧wl=z.f.words∧cl=z.f.cl∧pc=z.f.pc∧rm=(z.f.room:Int)):=Lib.hid ⟨hsl2,hwl,hcl,hpc,hrm⟩;rw[←hsl2]at s1;rw[←hwl]at s2;rw[←hcl]at c0;rw[←hpc]at c1;rw[←hrm]at c2;obtain⟨sn,hsn⟩: ∃sn,sn=sl.length:=⟨_,rfl⟩;obtain⟨qn,hqn⟩: ∃qn,qn=wl.length:=⟨_,rfl⟩;have NS:=Lib.hid hsn;have NQ:=Lib.hid hqn;rw[←hsn]at c3 WS s1;rw[←hqn]at c4 WQ s2;have HSA:=Lib.hid hsa;rw[hsa];have hgl:gs<wr.heap.size:=Nat.lt_of_lt_of_le hsl hF.out.size;clear a0 a1 a2 a3 a4 hn1 hn2 hsl2 hwl hcl hpc hrm hsv hqv hz hzm hsa hsl KO hsn hqn;go_upto_region 5 with fail
   obtain⟨W4,hW4⟩: ∃W4,W4=wr.alloc (.cells #[.int .u64 cl,.int .i64 pc,.int .i64 rm,.slice sa sn sc,.slice qa qn qc] 100):=⟨_,rfl⟩;obtain⟨kx,hkx⟩: ∃kx,kx=wr.heap.size:=⟨_,rfl⟩;have HK:Hid (wr.heap.size≤kx):=Lib.hid (by omega);have BXW4:Hid (blk W4 kx=some (.cells #[.int .u64 cl,.int .i64 pc,.int .i64 rm,.slice sa sn sc,.slice qa qn qc] 100 (0,0))):=Lib.hid (by rw[hW4,hkx];simp only[zB,if_true]);have FW4:Hid (Fr [] wr W4):=Lib.hid (by rw[hW4];exact(Fr.refl _ _).alloc _);have HKX:=Lib.hid hkx;rw[←hW4]
   try rw[←hkx]
   clear hW4 hkx c0 c1 c2 c3 c4 hgl;have OW1:Hid ((W4.alloc (.cells #[] 28)).ownsRow W4.heap.size 28 1 (.slice (some ⟨W4.heap.size,0,none⟩) 0 0) 0 []):=Lib.hid (own_mk (cur:= #[]) (by rw[zB,if_pos rfl]) (Nat.le_refl _) (Nat.le_refl _) (Nat.zero_le _) rfl rfl);have FA1:=Lib.hid ((Fr.refl [] W4).alloc (.cells #[] 28));have NW1:=Lib.hid (Rd.news (Rd.fr WS.out ((hF.out.trans FW4.out (by simp)).trans FA1.out (by simp)) (by simp)));have NL1:Hid ((zZ sl).length=sn*1):=Lib.hid (by rw[NS.out];simp[zZ]);have ON1:=Lib.hid (zz sl);have bx3:=zA BXW4.out (i:=3) rfl;have kl1:kx<W4.heap.size:=zF BXW4.out;have kn1:kx≠W4.heap.size:=by omega
   rw[←NS.out]at NW1;go_upto_region 6 with(at_builtin;refine zQ _ rfl _ _ _ rfl W4.heap.size 28 i1 (.int .u64 0) 1 8 Tryz.underlying29 IW.out Y0.out Y1.out Y2.out rfl (by decide) W4.heap.size 0 0 [] rfl OW1.out sa sn sc (zZ sl) rfl NL1.out NW1.out ON1.out (by unfold maxLen;omega) (by omega) FA1.out.size ?_;intro g5 c5 w5 own5 fr5 at5;rw[Nat.zero_add,List.nil_append]at own5;rw[Nat.zero_add];have OR1:=Lib.hid own5;have FB1:=Lib.hid (FA1.out.trans fr5 (fun x hx=> .inr (by simp only[List.mem_singleton]at hx;omega)));have XB1:=Lib.hid (FB1.out.at BXW4.out (by simp));have xc1:=zA XB1.out (i:=3) rfl;have xf1:=zE XB1.out (i:=3);clear own5 fr5 at5 OW1 FA1)
   obtain⟨W6,hW6⟩: ∃W,W=w5.setCell ⟨kx,3,none⟩ (.slice (some ⟨g5,0,none⟩) sn c5):=⟨_,rfl⟩;rw[←hW6];have BXW6:Hid (blk W6 kx=some (.cells #[.int .u64 cl,.int .i64 pc,.int .i64 rm,.slice (some ⟨g5,0,none⟩) sn c5,.slice qa qn qc] 100 (0,0))):=Lib.hid (by rw[hW6,zD,if_pos rfl,XB1.out];rfl);have FW6:Hid (Fr [] wr W6):=Lib.hid (by rw[hW6];exact(FW4.out.trans FB1.out (by simp)).setCell (.inr HK.out) _)
   have OS1:Hid (W6.ownsRow wr.heap.size 28 1 (.slice (some ⟨g5,0,none⟩) sn c5) sn (zZ sl)∧g5≠kx):=Lib.hid (by
    have hb:=zN OR1.out;have hs:=FW4.out.size;refine⟨zr (zL OR1.out (w':=W6) (S:=[kx]) (by rw[hW6];exact(Fr.refl [kx] _).setCell (.inl (by simp)) _) ?_) hs,by omega⟩;intro q hq;have:g5=q:=by simpa[Value.ownBlock]using hq
    subst this
    simp;omega)
   clear hW6 OR1 FB1 XB1 xc1 xf1 NW1 NL1 ON1 bx3 kl1 kn1;have OW2:Hid ((W6.alloc (.cells #[] 28)).ownsRow W6.heap.size 28 1 (.slice (some ⟨W6.heap.size,0,none⟩) 0 0) 0 []):=Lib.hid (own_mk (cur:= #[]) (by rw[zB,if_pos rfl]) (Nat.le_refl _) (Nat.le_refl _) (Nat.zero_le _) rfl rfl);have FA2:=Lib.hid ((Fr.refl [] W6).alloc (.cells #[] 28));have NW2:=Lib.hid (Rd.news (Rd.fr WQ.out ((hF.out.trans FW6.out (by simp)).trans FA2.out (by simp)) (by simp)));have NL2:Hid ((zZ wl).length=qn*1):=Lib.hid (by rw[NQ.out];simp[zZ]);have ON2:=Lib.hid (zz wl);have bx4:=zA BXW6.out (i:=4) rfl;have kl2:kx<W6.heap.size:=zF BXW6.out;have kn2:kx≠W6.heap.size:=by omega
   rw[←NQ.out]at NW2;go_upto_region 7 with(at_builtin;refine zQ _ rfl _ _ _ rfl W6.heap.size 28 i1 (.int .u64 0) 1 8 Tryz.underlying29 IW.out Y0.out Y1.out Y2.out rfl (by decide) W6.heap.size 0 0 [] rfl OW2.out qa qn qc (zZ wl) rfl NL2.out NW2.out ON2.out (by unfold maxLen;omega) (by omega) FA2.out.size ?_;intro g7 c7 w7 own5 fr5 at5;rw[Nat.zero_add,List.nil_append]at own5;rw[Nat.zero_add];have OR2:=Lib.hid own5;have FB2:=Lib.hid (FA2.out.trans fr5 (fun x hx=> .inr (by simp only[List.mem_singleton]at hx;omega)));have XB2:=Lib.hid (FB2.out.at BXW6.out (by simp));have xc2:=zA XB2.out (i:=4) rfl;have xf2:=zE XB2.out (i:=4);clear own5 fr5 at5 OW2 FA2)
   obtain⟨W8,hW8⟩: ∃W,W=w7.setCell ⟨kx,4,none⟩ (.slice (some ⟨g7,0,none⟩) qn c7):=⟨_,rfl⟩;rw[←hW8];have BXW8:Hid (blk W8 kx=some (.cells #[.int .u64 cl,.int .i64 pc,.int .i64 rm,.slice (some ⟨g5,0,none⟩) sn c5,.slice (some ⟨g7,0,none⟩) qn c7] 100 (0,0))):=Lib.hid (by rw[hW8,zD,if_pos rfl,XB2.out];rfl);have FW8:Hid (Fr [] wr W8):=Lib.hid (by rw[hW8];exact(FW6.out.trans FB2.out (by simp)).setCell (.inr HK.out) _)
   have OS2:Hid (W8.ownsRow wr.heap.size 28 1 (.slice (some ⟨g7,0,none⟩) qn c7) qn (zZ wl)∧g7≠kx):=Lib.hid (by
    have hb:=zN OR2.out;have hs:=FW6.out.size;refine⟨zr (zL OR2.out (w':=W8) (S:=[kx]) (by rw[hW8];exact(Fr.refl [kx] _).setCell (.inl (by simp)) _) ?_) hs,by omega⟩;intro q hq;have:g7=q:=by simpa[Value.ownBlock]using hq
    subst this
    simp;omega)
   have OS3:Hid (W8.ownsRow wr.heap.size 28 1 (.slice (some ⟨g5,0,none⟩) sn c5) sn (zZ sl)):=Lib.hid (by
    refine zL OS1.out.1 (w':=W8) (S:=[kx]) (by rw[hW8];exact(FB2.out.mono (by simp)).setCell (.inl (by simp)) _) ?_;intro q hq;have:g5=q:=by simpa[Value.ownBlock]using hq
    subst this
    simp;exact OS1.out.2)
   clear hW8 OR2 FB2 XB2 xc2 xf2 NW2 NL2 ON2 bx4 kl2 kn2 BXW4 FW4 BXW6 FW6 OS1 IW Y0 Y1 Y2 WS WQ;have OZ:Hid ((W8.alloc (.cells #[.int .u64 cl,.int .i64 pc,.int .i64 rm,.slice (some ⟨g5,0,none⟩) sn c5,.slice (some ⟨g7,0,none⟩) qn c7] 100)).ownsRow w.heap.size 100 5 (.slice (some ⟨g,0,none⟩) j c) j (Z.flatMap FV.cells)):=Lib.hid (zL hC.out.2.2.1 (FW8.out.alloc _) (by simp));have FB:=Lib.hid (FW8.out.alloc (.cells #[.int .u64 cl,.int .i64 pc,.int .i64 rm,.slice (some ⟨g5,0,none⟩) sn c5,.slice (some ⟨g7,0,none⟩) qn c7] 100));have HSZ:Hid (w.heap.size≤(W8.alloc (.cells #[.int .u64 cl,.int .i64 pc,.int .i64 rm,.slice (some ⟨g5,0,none⟩) sn c5,.slice (some ⟨g7,0,none⟩) qn c7] 100)).heap.size):=Lib.hid (Nat.le_trans hF.out.size FB.out.size);have NWZ:=Lib.hid (World.news_of_block (w:=W8.alloc (.cells #[.int .u64 cl,.int .i64 pc,.int .i64 rm,.slice (some ⟨g5,0,none⟩) sn c5,.slice (some ⟨g7,0,none⟩) qn c7] 100)) (B:=W8.heap.size) (show blk (World.alloc _ _) _=_ from by rw[zB,if_pos rfl]));have b0:=zA BXW8.out (i:=0) rfl;have b1:=zA BXW8.out (i:=1) rfl;have b2:=zA BXW8.out (i:=2) rfl;have b3:=zA BXW8.out (i:=3) rfl;have b4:=zA BXW8.out (i:=4) rfl;go_upto_region 8 with(at_builtin;refine zj _ rfl _ _ _ rfl w.heap.size 100 i0 (.agg #[.int .u64 0,.int .i64 0,.int .i64 0,.slice none 0 0,.slice none 0 0]) 5 72 Tryz.underlying115 II.out Z0.out Z1.out Z2.out rfl (by decide) g c j (Z.flatMap FV.cells) rfl OZ.out ⟨W8.heap.size,0,none⟩ 1 1 [.int .u64 cl,.int .i64 pc,.int .i64 rm,.slice (some ⟨g5,0,none⟩) sn c5,.slice (some ⟨g7,0,none⟩) qn c7] rfl rfl NWZ.out (by simp[Value.oneCell']) (by unfold maxLen;omega) (by omega) HSZ.out ?_;intro g9 c9 w9 own5 fr5 at5;have OW9:=Lib.hid own5;have F9:=Lib.hid fr5;have A9:=Lib.hid at5;clear own5 fr5 at5)
   have HGW:Hid (pb+1<g9):=Lib.hid (by
    have h1:=hpg.out;have h2:=zF hRB.out;have h3:=FB.out.size;rcases A9.out with h|h<;>omega)
   have HPW:=Lib.hid (F9.out.at (FB.out.at hPB.out (by simp)) (by have:=hpg.out;simp;omega));have HRW:=Lib.hid (F9.out.at (FB.out.at hRB.out (by simp)) (by have:=hpg.out;simp;omega))
   have CW:Hid (CpAt (pb::(pb+1)::X) w w9 x.F (j+1) g9 c9 (Z++[⟨z.f,⟨some ⟨g5,0,none⟩,sn,c5⟩,⟨some ⟨g7,0,none⟩,qn,c7⟩⟩])):=Lib.hid (by
    obtain⟨e1,e2,e3,e4,e5⟩:=EZ.out;have hgl:=own_lt hC.out.2.2.1
    have hXg: ∀q,q∈g::pb::(pb+1)::X→q<wr.heap.size:=by
     intro q hq;have hR:=zF hRB.out;simp only[List.mem_cons]at hq;rcases hq with rfl|rfl|rfl|hq
     ·exact hgl
     ·omega
     ·exact hR
     ·exact Nat.lt_of_lt_of_le (HB.out q hq) hF.out.size
    have ns:=NS.out;have nq:=NQ.out;subst e1 e2 e3 e4 e5;refine hC.out.next HZ.out rfl FB.out ⟨?_, ?_⟩ (by exact OW9.out) F9.out A9.out
    ·unfold WsR;rw[←ns];exact Rd.of_own (zL OS3.out ((Fr.refl [] W8).alloc _) (by simp)) (zz _) hXg
    ·unfold WsR;rw[←nq];exact Rd.of_own (zL OS2.out.1 ((Fr.refl [] W8).alloc _) (by simp)) (zz _) hXg)
   clear OZ FB HSZ NWZ b0 b1 b2 b3 b4 OS2 OS3 OW9 F9 A9 EZ NS NQ HZ BXW8 FW8 hC hPB hRB hpg;go_wp2_with fail;go_roundw;rw[HSA.out]at HPW
   case rel=>exact⟨j+1,g9,c9,_,by omega,by rw[Int.natCast_add];rfl,rfl,CW,HPW,HRW,HGW⟩
   case measure=>show n-((j:Int)+1).toNat<n-(j:Int).toNat;omega
  ·obtain rfl:j=n:=by omega
   have PA:=hPB;have RA:=hRB;have a0:=zA PA.out (i:=0) rfl;have a1:=zA PA.out (i:=1) rfl;have a2:=zA PA.out (i:=2) rfl;have a3:=zA PA.out (i:=3) rfl;have a4:=zA PA.out (i:=4) rfl;have a5:=zA PA.out (i:=5) rfl;have af0:=zE PA.out (i:=0);have af1:=zE PA.out (i:=1);have af2:=zE PA.out (i:=2);have af3:=zE PA.out (i:=3);have af4:=zE PA.out (i:=4);have af5:=zE PA.out (i:=5);have r0:=zA RA.out (i:=0) rfl;have r1:=zA RA.out (i:=1) rfl;have r2:=zA RA.out (i:=2) rfl;have r3:=zA RA.out (i:=3) rfl;have r4:=zA RA.out (i:=4) rfl;have r5:=zA RA.out (i:=5) rfl;have rf0:=zE RA.out (i:=0);have rf1:=zE RA.out (i:=1);have rf2:=zE RA.out (i:=2);have rf3:=zE RA.out (i:=3);have rf4:=zE RA.out (i:=4);have rf5:=zE RA.out (i:=5)
   have FIN:Hid (∀W7,Fr [pb,pb+1] wr W7→CpAt X w W7 x.F j g c Z):=Lib.hid (by
    intro W7 hF7;obtain⟨h1,h2,h3,h4,h5⟩:=hC.out;have hp:=HPB.out;have hg:=hpg.out;have FW:Fr [] w W7:=h5.trans hF7 (fun q hq=>by simp at hq;rcases hq with rfl|rfl<;>right<;>omega)
    refine⟨h1,h2,zL h3 hF7 (by intro q hq;have:g=q:=by simpa[Value.ownBlock]using hq
                               subst this;simp;omega), ?_,FW⟩
    intro q hq
    exact((h4 q hq).fr hF7 (by intro y hy;simp at hy;rcases hy with rfl|rfl<;>simp)).blocks (fun y hy=> .inl (by
     rcases List.mem_cons.1 hy with rfl|hy
     ·simp
     ·simp[hy])))
   clear hC hPB hRB hpg HX HN HPB FW2 II IW Z0 Z1 Z2 Y0 Y1 Y2;go_wp2_with fail;refine bodyPost_ret (ret_st rfl _ _ (pb+1) _ rfl (by rw[zD,if_pos rfl,zD,if_pos rfl,zD,if_pos rfl,zD,if_pos rfl,zD,if_pos rfl,zD,if_pos rfl,zD,if_neg (by simp),RA.out];rfl) rfl size_t20b und_t20b) rfl ?_;exact⟨g,c,Z,rfl,FIN.out _ ((((((((Fr.refl [pb,pb+1] wr).setCell (.inl (by simp)) _).setCell (.inl (by simp)) _).setCell (.inl (by simp)) _).setCell (.inl (by simp)) _).setCell (.inl (by simp)) _).setCell (.inl (by simp)) _).setCell (.inl (by simp)) _)⟩
def SzF(x:BV):Prop:=x.F.length≤100000000∧∀z,z∈x.F→z.f.slots.length≤1000∧z.f.words.length≤1000
theorem CpAt.fs{w0:World}{F Z:List FV}{g c:Nat}(h:CpAt X w0 w F F.length g c Z)(hX: ∀z,z∈X→z<w0.heap.size):FsR X w ⟨some ⟨g,0,none⟩,F.length,c⟩ Z:=by
 obtain⟨h1,h2,h3,h4,h5⟩:=h;refine⟨?_,fun z hz=>(h4 z hz).blocks (fun y hy=> .inl (by simp[hy]))⟩;rw[h1];exact Rd.of_own h3 (zl _ FV.one _) hX
theorem cut_map{F Z:List FV}{z:FV}{f:Frm}{l:List Frm}(hm:(Z++[z]).map FV.f=F.map FV.f)(hF:F.map FV.f=l.reverse):(Z.map FV.f++[f])=(f::l.tail).reverse:=by
 rw[hF]at hm;have:=congrArg List.dropLast hm;rw[List.map_append,List.dropLast_append_of_ne_nil (by simp)]at this;simp at this;rw[List.reverse_cons,this]
set_option maxRecDepth 100000 in
set_option maxHeartbeats 1000000 in
theorem r20change_c(w:World)(t:SV)(h:BsR X w s (L++[x]))(z':FV)(hz:z'.Ok X w)(hn:0<x.F.length)(hX: ∀z,z∈X→z<w.heap.size)(hm:L.length≤1000000)(hs:SzF x):
 Calls Tryz.prog 79 #[.agg #[.slice s.a s.n s.cap,.slice t.a t.n t.cap],z'.val] w fun e w'=> ∃(s':SV) (x':BV),e=.returned (.agg #[.slice s'.a s'.n s'.cap,.slice t.a t.n t.cap])∧x'.p=⟨z'.f::x.p.fr.tail,x.p.h⟩∧BsR X w' s' (L++[x'])∧Fr [] w w':=by
 have hx:=h.2 x (by simp);have hfn:=hx.f.1.ne;obtain⟨m,hmm⟩: ∃m,x.F.length=m+1:=⟨x.F.length-1,by omega⟩;obtain⟨X3,hX3⟩: ∃Y,Y=(w.heap.size+1+1)::X:=⟨_,rfl⟩
 have hX3m: ∀z,z∈X3→z∈X∨w.heap.size≤z:=by
  intro z hz;rw[hX3]at hz;rcases List.mem_cons.1 hz with rfl|hz
  ·right;omega
  ·exact .inl hz
 have hX3b: ∀z,z∈X3→z<w.heap.size+1+1+1:=by
  intro z hz;rw[hX3]at hz;rcases List.mem_cons.1 hz with rfl|hz
  ·omega
  ·have:=hX z hz;omega
 have CT:Hid (∀W,Fr [] w W→Calls Tryz.prog 76 #[.agg #[.slice s.a s.n s.cap,.slice t.a t.n t.cap]] W fun e w'=>e=.returned x.val∧Fr [] W w'):=Lib.hid (fun W hF=>r20top_c W t (h.fr hF (by simp)) hm)
 have CC:Hid (∀W,Fr [] w W→w.heap.size+1+1+1≤W.heap.size→Calls Tryz.prog 75 #[x.val] W fun e w'=> ∃(g c:Nat) (Z:List FV) (y:FV),e=.returned (.agg #[.slice (some ⟨g,0,none⟩) (m+1) c,.bool x.p.h.isSome,.bool x.deep,.int .u64 x.ret,.slice x.l.a x.l.n x.l.cap,.slice x.q.a x.q.n x.q.cap])∧Hid (Z.length=m∧(Z++[y]).map FV.f=x.F.map FV.f∧w'.ownsRow W.heap.size 100 5 (.slice (some ⟨g,0,none⟩) (m+1) c) (m+1) (Z.flatMap FV.cells++y.cells)∧∀z,z∈Z→z.Ok (g::X3) w')∧Hid (Fr [] W w')):=Lib.hid (by
  intro W hF hW;refine(r20Copy_c (X:=X3) W x ((hx.blocks hX3m).fr hF (by simp)) (fun z hz=>Nat.lt_of_lt_of_le (hX3b z hz) hW) hs.1 hs.2).mono ?_;rintro e w' ⟨g,c,Z,rfl,h1,h2,h3,h4,h5⟩;rw[hmm]at h1 h3;obtain⟨Z',y,rfl⟩: ∃Z' y,Z=Z'++[y]:=⟨Z.dropLast,Z.getLast (by intro hc;rw[hc]at h1;simp at h1),(List.dropLast_concat_getLast _).symm⟩;refine⟨g,c,Z',y,by unfold BV.val;rw[hmm];rfl,Lib.hid ⟨by simpa using h1,by rw[h2,List.take_length],by simpa using h3,fun z hz=>h4 z (by simp[hz])⟩,Lib.hid h5⟩)
 have CW:Hid (∀W g c (Z:List FV) y,Fr [] w W→w.heap.size+1+1+1≤W.heap.size→Z.length=m→(Z++[y]).map FV.f=x.F.map FV.f→W.ownsRow (w.heap.size+1+1+1) 100 5 (.slice (some ⟨g,0,none⟩) (m+1) c) (m+1) (Z.flatMap FV.cells++z'.cells)→(∀z,z∈Z→z.Ok X3 W)→Calls Tryz.prog 77 #[.agg #[.slice s.a s.n s.cap,.slice t.a t.n t.cap],.agg #[.slice (some ⟨g,0,none⟩) (m+1) c,.bool x.p.h.isSome,.bool x.deep,.int .u64 x.ret,.slice x.l.a x.l.n x.l.cap,.slice x.q.a x.q.n x.q.cap]] W fun e w'=> ∃(a':Option Addr) (n' c':Nat),e=.returned (.agg #[.slice a' n' c',.slice t.a t.n t.cap])∧Hid (∀W',Fr [w.heap.size+1+1] w' W'→∃(s':SV) (x':BV),Ending.returned (.agg #[.slice a' n' c',.slice t.a t.n t.cap])=.returned (.agg #[.slice s'.a s'.n s'.cap,.slice t.a t.n t.cap])∧x'.p=⟨z'.f::x.p.fr.tail,x.p.h⟩∧BsR X W' s' (L++[x'])∧Fr [] w W')∧Hid (Fr [] W w')):=Lib.hid (by
  intro W g c Z y hF hW hZ hZm ho hk
  have hok:BV.Ok X3 W ⟨⟨z'.f::x.p.fr.tail,x.p.h⟩,Z++[z'],⟨some ⟨g,0,none⟩,m+1,c⟩,x.l,x.q⟩:=by
   refine⟨?_,⟨?_, ?_⟩,(hx.h.blocks hX3m).fr hF (by simp)⟩
   ·show(Z++[z']).map FV.f=_
    rw[List.map_append];exact cut_map hZm hx.e
   ·show Rd X3 W _ (Z++[z']).length 5 ((Z++[z']).flatMap FV.cells)
    rw[List.length_append,hZ,List.length_singleton];refine Rd.of_own (B:=w.heap.size+1+1+1) (by simpa using ho) (zl _ FV.one _) hX3b
   ·intro q hq;rcases List.mem_append.1 hq with hq|hq
    ·exact hk q hq
    ·simp at hq;subst hq;exact(hz.blocks hX3m).fr hF (by simp)
  refine(r20with_c (X:=X3) W t ((h.blocks hX3m).fr hF (by simp)) hok (fun z hz=>Nat.lt_of_lt_of_le (hX3b z hz) hW) hm).mono ?_;rintro e w' ⟨s',rfl,hb,hF'⟩;refine⟨s'.a,s'.n,s'.cap,rfl,Lib.hid fun W' hW'=>⟨s',_,rfl,rfl,(hb.fr hW' (by intro y hy;rw[hX3];simp at hy;subst hy;simp)).blocks (fun y hy=> .inl (by rw[hX3];simp[hy])),(hF.trans hF' (by simp)).trans hW' (fun y hy=> .inr (by simp at hy;omega))⟩,Lib.hid hF'⟩)
 have HZC:Hid (z'.cells=[.int .u64 z'.f.cl,.int .i64 z'.f.pc,.int .i64 (z'.f.room:Int),.slice z'.s.a z'.s.n z'.s.cap,.slice z'.q.a z'.q.n z'.q.cap]):=Lib.hid rfl;have hf1:=hs.1;have hm1:m≤100000000:=by omega
 unfold BV.val at CT CC;rw[hfn,hmm]at CT CC;unfold FV.val;obtain⟨kv,hkv⟩: ∃v,v=z'.cells:=⟨_,rfl⟩;rw[←hkv]at CW HZC;clear hkv hx hfn hs hf1 hX3m hX3b hX3 hz hX h hmm hn;generalize x.fr.a=fa at CT CC CW;generalize x.fr.cap=fc at CT CC CW;generalize x.p.h.isSome=hd at CT CC CW;generalize x.deep=dp at CT CC CW;generalize x.ret=ret at CT CC CW;generalize x.l.a=la at CT CC CW;generalize x.l.n=ln at CT CC CW;generalize x.l.cap=lc at CT CC CW;generalize x.q.a=qa at CT CC CW;generalize x.q.n=qn at CT CC CW;generalize x.q.cap=qc at CT CC CW;generalize s.a=ka at CT CW⊢;generalize s.n=kn at CT CW⊢;generalize s.cap=kc at CT CW⊢;generalize t.a=ta at CT CW⊢;generalize t.n=tn at CT CW⊢;generalize t.cap=tc at CT CW⊢;generalize z'.f.cl=zcl at HZC⊢;generalize z'.f.pc=zpc at HZC⊢;generalize (z'.f.room:Int)=zrm at HZC⊢;generalize z'.s.a=za at HZC⊢;generalize z'.s.n=zn at HZC⊢;generalize z'.s.cap=zc at HZC⊢;generalize z'.q.a=ya at HZC⊢;generalize z'.q.n=yn at HZC⊢;generalize z'.q.cap=yc at HZC⊢;obtain⟨W3,hW3⟩: ∃W,W=(((w.alloc (.cells #[.slice ka kn kc,.slice ta tn tc] 40)).alloc (.cells #[.int .u64 zcl,.int .i64 zpc,.int .i64 zrm,.slice za zn zc,.slice ya yn yc] 100)).alloc (.cells #[.slice none 0 0,.slice none 0 0] 40)):=⟨_,rfl⟩;have FW3:Hid (Fr [] w W3):=Lib.hid (by rw[hW3];exact((((Fr.refl _ _).alloc _).alloc _).alloc _));have PW30:Hid (blk W3 (w.heap.size)=some (.cells #[.slice ka kn kc,.slice ta tn tc] 40 (0,0))):=Lib.hid (by rw[hW3];simp only[zB,zC];rw[if_neg (by omega),if_neg (by omega),if_pos trivial]);have PW31:Hid (blk W3 (w.heap.size+1)=some (.cells #[.int .u64 zcl,.int .i64 zpc,.int .i64 zrm,.slice za zn zc,.slice ya yn yc] 100 (0,0))):=Lib.hid (by rw[hW3];simp only[zB,zC];rw[if_neg (by omega),if_pos trivial]);have PW32:Hid (blk W3 (w.heap.size+1+1)=some (.cells #[.slice none 0 0,.slice none 0 0] 40 (0,0))):=Lib.hid (by rw[hW3];simp only[zB,zC];rw[if_pos trivial]);obtain⟨pb,hpb⟩: ∃pb,pb=w.heap.size:=⟨_,rfl⟩;rw[←hpb]at PW30 PW31 PW32 CC CW;have hsz:W3.heap.size=pb+1+1+1:=by rw[hW3];simp only[zC];omega
 go_enter Tryz.func79,Tryz.ntmps79;go_upto_region 1 with fail
 rw[←hW3]
 try rw[←hpb]
 have p0:=zA PW30.out (i:=0) rfl;have p1:=zA PW30.out (i:=1) rfl;have HSZ:=Lib.hid hsz;have HPB:=Lib.hid hpb;clear hW3 hpb hsz;go_upto_region 2 with(first|(go_at_call 76;refine(CT.out _ FW3.out).mono ?_;rintro e w4 ⟨rfl,F4⟩;have G4:=Lib.hid F4;clear F4)|(go_at_call 75;refine(CC.out _ (FW3.out.trans G4.out (by simp)) (by have:=G4.out.size;have:=HSZ.out;omega)).mono ?_;rintro e w5 ⟨g,c,Z,y,rfl,hc1,hF5⟩))
 obtain⟨W6,hW6⟩: ∃W,W=w5.alloc (.cells #[.slice (some ⟨g,0,none⟩) (m+1) c,.bool hd,.bool dp,.int .u64 ret,.slice la ln lc,.slice qa qn qc] 117):=⟨_,rfl⟩;obtain⟨kf,hkf⟩: ∃k,k=w5.heap.size:=⟨_,rfl⟩;obtain⟨y0,y1,y2,y3,y4,hy⟩: ∃y0 y1 y2 y3 y4,y.cells=[y0,y1,y2,y3,y4]:=⟨_,_,_,_,_,rfl⟩;obtain⟨pre,hpre⟩: ∃pre,pre=Z.flatMap FV.cells:=⟨_,rfl⟩;have HPL:Hid (pre.length=m*5):=Lib.hid (by rw[hpre,flat_len _ 5 FV.len,hc1.out.1]);have G5:=Lib.hid ((FW3.out.trans G4.out (by simp)).trans hF5.out (by simp))
 have OW5:Hid (w5.ownsRow (pb+1+1+1) 100 5 (.slice (some ⟨g,0,none⟩) (m+1) c) (m+1) (pre++[y0,y1,y2,y3,y4])):=Lib.hid (by
  have:=hc1.out.2.2.1;rw[hy,←hpre]at this;exact zr this (by have:=G4.out.size;have:=HSZ.out;omega))
 have hgb:=zN OW5.out;have hgl:=own_lt OW5.out;have OW6:Hid (W6.ownsRow (pb+1+1+1) 100 5 (.slice (some ⟨g,0,none⟩) (m+1) c) (m+1) (pre++[y0,y1,y2,y3,y4])):=Lib.hid (by rw[hW6];exact zL OW5.out ((Fr.refl [] w5).alloc _) (by simp));have FA:Hid (Fr [] w5 W6):=Lib.hid (by rw[hW6];exact(Fr.refl [] w5).alloc _);have G6:Hid (Fr [] W3 W6):=Lib.hid (by rw[hW6];exact(G4.out.trans hF5.out (by simp)).alloc _);have PF6:Hid (blk W6 kf=some (.cells #[.slice (some ⟨g,0,none⟩) (m+1) c,.bool hd,.bool dp,.int .u64 ret,.slice la ln lc,.slice qa qn qc] 117 (0,0))):=Lib.hid (by rw[hW6,hkf,zB,if_pos rfl]);have PX6:=Lib.hid (G6.out.at PW31.out (by simp));have PK6:=Lib.hid (G6.out.at PW30.out (by simp));have PR6:=Lib.hid (G6.out.at PW32.out (by simp));have hg0:g≠pb:=by omega
 have hg1:g≠pb+1:=by omega
 have hg2:g≠pb+1+1:=by omega
 have hg3:g≠kf:=by omega
 have hk3:pb+1+1<kf:=by have:=zF PW32.out;have:=G6.out.size;rw[hW6,zC]at this;have:=HSZ.out;omega
 have hcap:=(ZC OW6.out).1;rw[←hW6]
 try rw[←hkf]
 have HKF:Hid (kf=w5.heap.size∧W6.heap.size=kf+1):=Lib.hid ⟨hkf,by rw[hW6,zC,hkf]⟩;clear hW6 hkf;have x0:=zA PX6.out (i:=0) rfl;have x1:=zA PX6.out (i:=1) rfl;have x2:=zA PX6.out (i:=2) rfl;have x3:=zA PX6.out (i:=3) rfl;have x4:=zA PX6.out (i:=4) rfl;have f0:=zA PF6.out (i:=0) rfl;have f1:=zA PF6.out (i:=1) rfl;have f2:=zA PF6.out (i:=2) rfl;have f3:=zA PF6.out (i:=3) rfl;have f4:=zA PF6.out (i:=4) rfl;have f5:=zA PF6.out (i:=5) rfl;have d0:=zX OW6.out (at_pre pre ([y0,y1,y2,y3,y4]:List Value) HPL.out 0);have d1:=zX OW6.out (at_pre pre ([y0,y1,y2,y3,y4]:List Value) HPL.out 1);have d2:=zX OW6.out (at_pre pre ([y0,y1,y2,y3,y4]:List Value) HPL.out 2);have d3:=zX OW6.out (at_pre pre ([y0,y1,y2,y3,y4]:List Value) HPL.out 3);have d4:=zX OW6.out (at_pre pre ([y0,y1,y2,y3,y4]:List Value) HPL.out 4);rw[Nat.add_zero]at d0;have df0:=zf OW6.out (m*5);have df1:=zf OW6.out (m*5+1);have df2:=zf OW6.out (m*5+2);have df3:=zf OW6.out (m*5+3);have df4:=zf OW6.out (m*5+4);go_upto_region 3 with fail
 obtain⟨W7,hW7⟩: ∃W,W=(((((W6.setCell ⟨g,m*5,none⟩ (.int .u64 zcl)).setCell ⟨g,m*5+1,none⟩ (.int .i64 zpc)).setCell ⟨g,m*5+2,none⟩ (.int .i64 zrm)).setCell ⟨g,m*5+3,none⟩ (.slice za zn zc)).setCell ⟨g,m*5+4,none⟩ (.slice ya yn yc)):=⟨_,rfl⟩;rw[←hW7]
 have OW7:Hid (W7.ownsRow (pb+1+1+1) 100 5 (.slice (some ⟨g,0,none⟩) (m+1) c) (m+1) (pre++[.int .u64 zcl,.int .i64 zpc,.int .i64 zrm,.slice za zn zc,.slice ya yn yc])):=Lib.hid (by
  rw[hW7,←set5 pre y0 y1 y2 y3 y4 _ _ _ _ _ HPL.out];exact zg (zg (zg (zg (zg OW6.out _ _) _ _) _ _) _ _) _ _)
 have F7:Hid (Fr [g] W6 W7):=Lib.hid (by rw[hW7];exact(((((Fr.refl [g] W6).setCell (.inl (by simp)) _).setCell (.inl (by simp)) _).setCell (.inl (by simp)) _).setCell (.inl (by simp)) _).setCell (.inl (by simp)) _);clear hW7 d0 d1 d2 d3 d4 df0 df1 df2 df3 df4 x0 x1 x2 x3 x4 f0 f1 f2 f3 f4 f5 OW6 OW5;have PK7:=Lib.hid (F7.out.at PK6.out (by simp;omega));have PF7:=Lib.hid (F7.out.at PF6.out (by simp;omega));have PR7:=Lib.hid (F7.out.at PR6.out (by simp;omega));have k0:=zA PK7.out (i:=0) rfl;have k1:=zA PK7.out (i:=1) rfl;have f0:=zA PF7.out (i:=0) rfl;have f1:=zA PF7.out (i:=1) rfl;have f2:=zA PF7.out (i:=2) rfl;have f3:=zA PF7.out (i:=3) rfl;have f4:=zA PF7.out (i:=4) rfl;have f5:=zA PF7.out (i:=5) rfl;have G7:Hid (Fr [] w W7):=Lib.hid ((FW3.out.trans G6.out (by simp)).trans F7.out (by intro q hq;simp at hq;have:=HPB.out;omega))
 have CW2:=Lib.hid (CW.out W7 g c Z y G7.out (by have:=F7.out.size;have:=HKF.out.2;have:=hk3;omega) hc1.out.1 hc1.out.2.1 (by rw[HZC.out,←hpre];exact OW7.out) (by
  intro q hq;have h1:q.Ok (g::X3) W6:=(hc1.out.2.2.2 q hq).fr FA.out (by simp);exact(h1.fr F7.out (by simp)).blocks (fun y hy=> .inl (by simp[hy]))))
 clear CW CT CC HZC hc1;go_upto_region 4 with(go_at_call 77;refine CW2.out.mono ?_;rintro e w8 ⟨a',n',c',rfl,hfin,hF8⟩;have PR8:=Lib.hid (hF8.out.at PR7.out (by simp));have r0:=zA PR8.out (i:=0) rfl;have r1:=zA PR8.out (i:=1) rfl;have rf0:=zE PR8.out (i:=0);have rf1:=zE PR8.out (i:=1))
 refine bodyPost_ret (ret_st rfl _ _ (pb+1+1) _ rfl (by rw[zD,if_pos rfl,zD,if_pos rfl,PR8.out];rfl) rfl zO zR) rfl ?_;exact hfin.out _ (((Fr.refl [pb+1+1] w8).setCell (.inl (by simp)) _).setCell (.inl (by simp)) _)
end
end Go.Proofs.YtghkahcogphomaaGreat
