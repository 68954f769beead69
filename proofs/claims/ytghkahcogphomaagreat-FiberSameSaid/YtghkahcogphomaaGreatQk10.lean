/- Fibers: a part of the walk. No condition. -/
import Derived.Test.YtghkahcogphomaaGreatQk09
set_option linter.all false
namespace Go.Proofs.YtghkahcogphomaaGreat
section
open Go.ChangeShapes Go.WideShapes Go.RowKit
variable{w0 w w1 w':World}{c:Sk}{A A':Ar}{top:Int}{last:Value}
def againF(A:Ar)(m n:Nat)(f:Int):Ar×Option Int:=
 match(ZB A m n (gtF A m f 1)).2 with
 |none=>((ZB A m n (gtF A m f 1)).1,none)
 |some sg=>objF (ZB A m n (gtF A m f 1)).1 m 7 [45,sg,gtF (ZB A m n (gtF A m f 1)).1 m f 2,gtF (ZB A m n (gtF A m f 1)).1 m f 3]
theorem vobj4_c(kind a b d e:Int)(hk:kind<16)(ha:W64 a)(hb:W64 b)(hd:W64 d)(he:W64 e)(h:St w0 w c A top last):Calls Tryz.prog 64 #[.pointer (some ⟨c.sb,0,none⟩),.int .i64 kind,.slice (some ⟨w.heap.size,0,none⟩) 4 4] (w.alloc (.cells #[.int .u64 a,.int .u64 b,.int .u64 d,.int .u64 e] 28)) fun e' w'=>e'=.returned (zM (objF A c.m kind [a,b,d,e]).2)∧St w0 w' c (objF A c.m kind [a,b,d,e]).1 top last:=
 vobject_c (h.alloc _) kind hk [a,b,d,e] (by
  intro x hx;simp at hx;rcases hx with rfl|rfl|rfl|rfl<;>assumption) _ 4 4 (fd_new h _ 28 _ (by rw[zB,if_pos rfl];rfl)) rfl (by omega)
theorem vobj3_c(kind a b d:Int)(hk:kind<16)(ha:W64 a)(hb:W64 b)(hd:W64 d)(h:St w0 w c A top last):Calls Tryz.prog 64 #[.pointer (some ⟨c.sb,0,none⟩),.int .i64 kind,.slice (some ⟨w.heap.size,0,none⟩) 3 3] (w.alloc (.cells #[.int .u64 a,.int .u64 b,.int .u64 d] 28)).drew fun e' w'=>e'=.returned (zM (objF A c.m kind [a,b,d]).2)∧St w0 w' c (objF A c.m kind [a,b,d]).1 top last:=
 vobject_c (h.alloc _).drew kind hk [a,b,d] (by
  intro x hx;simp at hx;rcases hx with rfl|rfl|rfl<;>assumption) _ 3 3 (fd_new h _ 28 _ (by rw[blk_drew,zB,if_pos rfl];rfl)) rfl (by omega)
set_option maxHeartbeats 1000000 in
theorem kagain_c(n:Nat)(h:St w0 w c A top last)(f:Int)(hf:W64 f)(hok:SgOk A c.m n (gtF A c.m f 1))(hW: ∀x,(ZB A c.m n (gtF A c.m f 1)).2=some x→W64 x):Calls Tryz.prog 81 #[.pointer (some ⟨c.kb,0,none⟩),.int .u64 f] w fun e w'=>e=.returned (zM (againF A c.m n f).2)∧St w0 w' c (againF A c.m n f).1 top last:=by
 have CG:=Lib.hid (zU h f 1 hf (I64.of (by omega)));have CS:=Lib.hid (fun w1 (h1:St w0 w1 c A top last)=>ksegs_c n w1 (gtF A c.m f 1) h1 (h.gw _ _) hok);unfold againF;cases ho:(ZB A c.m n (gtF A c.m f 1)).2 with
 |none=>
  rw[ho]at CS;simp only[zM]at CS⊢;clear ho hW hok h;go_enter Tryz.func81,Tryz.ntmps81;go_wp2_with fail;refine CG.out.mono ?_;rintro e w1 ⟨rfl,h1⟩;have h1:=Lib.hid h1;go_wp2_with fail;refine(CS.out _ h1.out).mono ?_;rintro e w2 ⟨rfl,h2⟩;go_wp2;go_ret2;exact⟨rfl,h2⟩
 |some sg=>
  rw[ho]at CS;simp only[zM]at CS;simp only;have hsg:=hW sg ho;have hf0:=hf;clear ho hW hok h;generalize (ZB A c.m n (gtF A c.m f 1)).1=A1 at*;have CO:Hid (∀w1,St w0 w1 c A1 top last→_):=Lib.hid (fun w1 h1=>vobj4_c 7 45 sg (gtF A1 c.m f 2) (gtF A1 c.m f 3) (by omega) zG hsg (h1.gw _ _) (h1.gw _ _) h1);obtain⟨x,b,hxb⟩:=wordVal_tuple (objF A1 c.m 7 [45,sg,gtF A1 c.m f 2,gtF A1 c.m f 3]).2;rw[hxb]at CO⊢;clear hxb;go_enter Tryz.func81,Tryz.ntmps81;go_wp2_with fail;refine CG.out.mono ?_;rintro e w1 ⟨rfl,h1⟩;have h1:=Lib.hid h1;go_wp2_with fail;refine(CS.out _ h1.out).mono ?_;rintro e w2 ⟨rfl,h2⟩;have h2d:=h2.drew;have k0:=h2.k0;clear CG CS h1;go_wp2;go_region_held3 (fun w_=>w_.cell? ⟨c.kb,0,none⟩=some (.pointer (some ⟨c.sb,0,none⟩))) (with_reducible first|exact St.k0 ‹_›|exact St.k0 (St.drew ‹_›)|exact St.k0 (St.alloc ‹_› _)|exact St.k0 (St.drew (St.alloc ‹_› _))) (first|(go_at_call 49;refine Calls.mono (zK _) ?_;rintro e w' ⟨rfl,rfl⟩)|(go_at_call 52;refine Calls.mono (zU ‹_› _ _ (by first|assumption|exact St.gw ‹_› _ _|exact St.tw ‹_›|exact zG|exact zJ|exact zH _) (by first|exact I64.of (by omega)|assumption)) ?_;rintro e w' ⟨rfl,_⟩)|(go_at_call 64;refine Calls.mono (CO.out _ ‹_›) ?_;rintro e w9 ⟨rfl,h9⟩))
  all_goals
   go_wp2;go_ret2;exact⟨rfl,h9⟩
theorem kcapture_no(h:St w0 w c A top last)(up:Nat)(hup:up≤16777215)(hn: ∀f,dnF A c.m up top=some f→lowF A c.m f=true):Calls Tryz.prog 16 #[.pointer (some ⟨c.kb,0,none⟩),.int .i64 (up:Int)] w fun e w'=>e=.returned (.tuple #[.int .u64 45,.bool false])∧St w0 w' c A top last:=by
 have CD:Hid (∀w1,St w0 w1 c A top last→∃x,Calls Tryz.prog 50 #[.pointer (some ⟨c.kb,0,none⟩),.int .i64 (up:Int)] w1 fun e w'=>e=.returned (.tuple #[.int .u64 x,.bool false])∧St w0 w' c A top last):=Lib.hid (fun w1 h1=>by
  have:=kdown_c h1 up (by omega);cases ho:dnF A c.m up top with
  |none=>rw[ho]at this;exact⟨0,this⟩
  |some f=>rw[ho]at this;simp only[dnVal,hn f ho]at this;exact⟨f,this⟩)
 obtain⟨x,CX⟩:=CD.out w h;have CX:=Lib.hid CX;clear CD h hn;go_enter Tryz.func16,Tryz.ntmps16;go_wp2_with (first|(go_at_call 50;refine CX.out.mono ?_;rintro e w' ⟨rfl,_⟩)|(go_at_call 49;refine(zK _).mono ?_;rintro e w' ⟨rfl,rfl⟩));go_ret2;exact⟨rfl,by assumption⟩
def capF(A:Ar)(m:Nat)(top low r:Int):Ar:=stF (objF A m 6 [smW 0,top,low]).1 m low 0 45
set_option maxHeartbeats 1000000 in
theorem kcapture_deep(h:St w0 w c A top last)(up:Nat)(hup:up≤16777215)(low r:Int)(hlw:W64 low)(hrw:W64 r)(hd:dnF A c.m up top=some low)(hl:lowF A c.m low=false)(hr:(objF A c.m 6 [smW 0,top,low]).2=some r)(hh:hasF (objF A c.m 6 [smW 0,top,low]).1 c.m low=true)(hdp:nmF (objF A c.m 6 [smW 0,top,low]).1 c.m (gtF (objF A c.m 6 [smW 0,top,low]).1 c.m low 3) 0≠0):
 Calls Tryz.prog 16 #[.pointer (some ⟨c.kb,0,none⟩),.int .i64 (up:Int)] w fun e w'=>e=.returned (.tuple #[.int .u64 r,.bool true])∧St w0 w' c (capF A c.m top low r) (gtF (objF A c.m 6 [smW 0,top,low]).1 c.m low 0) (.pointer none):=by
 have CD:=Lib.hid (kdown_c h up (by omega));rw[hd]at CD;simp only[dnVal,hl,Bool.not_false]at CD;have CO:Hid (∀w1,St w0 w1 c A top last→_):=Lib.hid (fun w1 h1=>vobj3_c 6 (smW 0) top low (by omega) (zH _) h1.tw hlw h1);rw[hr]at CO;simp only[zM]at CO;unfold capF;clear hd hl hr h;generalize (objF A c.m 6 [smW 0,top,low]).1=A1 at*;have hd2:(nmF A1 c.m (gtF A1 c.m low 3) 0==0)=false:=by simpa using hdp
 have SM:Hid (∀w,_):=Lib.hid (fun w=>zb 0 w (by omega) (by omega));clear hdp;go_enter Tryz.func16,Tryz.ntmps16;go_wp2_with fail;refine CD.out.mono ?_;rintro e w1 ⟨rfl,h1⟩;have h1d:=h1.drew;have k0:=h1.k0;clear CD;go_wp2;go_region_held3 (fun w_=>w_.cell? ⟨c.kb,0,none⟩=some (.pointer (some ⟨c.sb,0,none⟩))) (with_reducible first|exact St.k0 ‹_›|exact St.k0 (St.drew ‹_›)|exact St.k0 (St.alloc ‹_› _)|exact St.k0 (St.drew (St.alloc ‹_› _))) (first|(go_at_call 62;refine Calls.mono (SM.out _) ?_;rintro e w' ⟨rfl,rfl⟩)|(go_at_call 46;refine Calls.mono (zh ‹_›) ?_;rintro e w' ⟨rfl,rfl⟩)|(go_at_call 64;refine Calls.mono (CO.out _ ‹_›) ?_;rintro e w9 ⟨rfl,h9⟩))
 all_goals
  clear h1 h1d k0;go_wp2_with (first|(go_at_call 49;refine(zK _).mono ?_;rintro e w' ⟨rfl,rfl⟩)|(go_at_call 46;refine(zh ‹_›).mono ?_;rintro e w' ⟨rfl,rfl⟩)|(go_at_call 52;refine(zU ‹_› _ _ (by first|assumption|exact St.gw ‹_› _ _|exact St.tw ‹_›|exact zG|exact zJ|exact zH _) (by first|exact I64.of (by omega)|assumption)).mono ?_;rintro e w' ⟨rfl,_⟩)|(go_at_call 67;refine(zv ‹_› _ _ _ (by first|assumption|exact St.gw ‹_› _ _|exact St.tw ‹_›|exact zG|exact zJ|exact zH _) (by first|exact I64.of (by omega)|assumption) (by first|assumption|exact St.gw ‹_› _ _|exact St.tw ‹_›|exact zG|exact zJ|exact zH _)).mono ?_;rintro e w' ⟨rfl,_⟩)|(go_at_call 62;refine(zb _ _ (by omega) (by omega)).mono ?_;rintro e w' ⟨rfl,rfl⟩)|(go_at_call 65;refine(kturn_c ‹_› _ (by first|assumption|exact St.gw ‹_› _ _|exact St.tw ‹_›|exact zG|exact zJ|exact zH _)).mono ?_;rintro e w' ⟨rfl,_⟩)|(go_at_call 51;refine(zP ‹_› _ (by first|assumption|exact St.gw ‹_› _ _|exact St.tw ‹_›|exact zG|exact zJ|exact zH _)).mono ?_;rintro e w' ⟨rfl,_⟩)|(go_at_call 68;refine(ZA ‹_› _ (by first|assumption|exact St.gw ‹_› _ _|exact St.tw ‹_›|exact zG|exact zJ|exact zH _)).mono ?_;rintro e w' ⟨rfl,_⟩)|(go_at_call 73;refine(zq ‹_› _ (by first|assumption|exact St.gw ‹_› _ _|exact St.tw ‹_›|exact zG|exact zJ|exact zH _)).mono ?_;rintro e w' ⟨rfl,_⟩)|(go_at_call 66;refine(knum_c ‹_› _ _ (by first|assumption|exact St.gw ‹_› _ _|exact St.tw ‹_›|exact zG|exact zJ|exact zH _) (by first|exact I64.of (by omega)|assumption)).mono ?_;rintro e w' ⟨rfl,_⟩));go_ret2;exact⟨rfl,by assumption⟩
structure SpAt(w:World)(c:Sk)(A:Ar):Prop where
 s:blk w c.sb=some (.cells #[.pointer (some ⟨c.hb,0,none⟩),c.nv,c.mv] 107 (0,0))
 h:HeAt w c.hb c.b c.wb c.lb A
 ok:A.Ok c.m
 wd:A.Wd
 ap:[c.sb,c.hb,c.b,c.wb,c.lb].Nodup
def Sk.low(c:Sk):List Nat:=[c.b,c.wb,c.lb]
structure Sp(w0 w:World)(c:Sk)(A:Ar):Prop where
 a:SpAt w c A
 fr:Fr c.low w0 w
theorem Sp.keep(h:Sp w0 w c A)(hF:Fr [] w w'):Sp w0 w' c A:=⟨⟨hF.at h.a.s (by simp),h.a.h.keep hF,h.a.ok,h.a.wd,h.a.ap⟩,h.fr.trans hF (by simp)⟩
theorem Sp.alloc(h:Sp w0 w c A)(o:Obj):Sp w0 (w.alloc o) c A:=h.keep ((Fr.refl _ _).alloc _)
theorem Sp.drew(h:Sp w0 w c A):Sp w0 w.drew c A:=h.keep (Fr.refl _ _).drew
theorem Sp.base(h:Sp w0 w c A):Sp w w c A:=⟨h.a,Fr.refl _ _⟩
theorem Sp.join(h:Sp w0 w c A)(h2:Sp w w1 c A'):Sp w0 w1 c A':=⟨h2.a,h.fr.same h2.fr⟩
theorem Sp.heap(h:Sp w0 w c A)(hF:Fr [c.b,c.wb,c.lb] w w')(he:HeAt w' c.hb c.b c.wb c.lb A')(ok:A'.Ok c.m)(wd:A'.Wd):Sp w0 w' c A':=by
 have ap:=h.a.ap;simp only[List.nodup_cons,List.mem_cons,List.not_mem_nil,or_false,not_or]at ap;obtain⟨⟨b3,b4,b5,b6⟩,_⟩:=ap;refine⟨⟨hF.at h.a.s ?_,he,ok,wd,h.a.ap⟩,h.fr.same hF⟩;simp only[List.mem_cons,List.not_mem_nil,or_false,not_or];exact⟨b4,b5,b6⟩
theorem Sp.s0(h:Sp w0 w c A):w.cell? ⟨c.sb,0,none⟩=some (.pointer (some ⟨c.hb,0,none⟩)):=zA h.a.s rfl
theorem oset_p(h:Sp w0 w c A)(x i v:Int)(hx:W64 x)(hi:I64 i)(hv:W64 v):Calls Tryz.prog 98 #[.pointer (some ⟨c.hb,0,none⟩),.int .u64 x,.int .i64 i,.int .u64 v] w fun e w'=>(∃z,e=.returned (.int .i64 z))∧Sp w0 w' c (stF A c.m x i v):=by
 refine(oset_c w h.a.h h.a.ok h.a.wd x i v hx.1 hx.2 hi).mono ?_;rintro e w' ⟨rfl,hH,hF⟩;exact⟨⟨_,rfl⟩,h.heap hF hH (setF_ok h.a.ok x i v) (wd_setF h.a.wd c.m x i hv)⟩
theorem omake_p(h:Sp w0 w c A)(kind n:Int):Calls Tryz.prog 116 #[.pointer (some ⟨c.hb,0,none⟩),.int .i64 kind,.int .i64 n] w fun e w'=>e=.returned (zM (makeF A c.m kind n).2)∧Sp w0 w' c (makeF A c.m kind n).1:=by
 refine(omake_c w h.a.h h.a.ok kind n).mono ?_;rintro e w' ⟨rfl,hH,hF⟩;exact⟨rfl,h.heap hF hH (makeF_ok h.a.ok kind n) (makeF_wd h.a.wd _ _ _).1⟩
def FpAt(w:World)(c:Sk)(a:Option Addr)(ws:List Int):Prop:=ws=[]∨∃b o,a=some ⟨b,o,none⟩∧b<w.heap.size∧b∉c.low∧∀i,i<ws.length→w.cell? ⟨b,o+i,none⟩=some (.int .u64 (ws[i]?.getD 0))
theorem FpAt.keep{a:Option Addr}{ws:List Int}(h:FpAt w c a ws)(hF:Fr c.low w w'):FpAt w' c a ws:=by
 rcases h with h|⟨b,o,h1,h2,h3,h4⟩
 ·exact .inl h
 ·exact .inr ⟨b,o,h1,Nat.lt_of_lt_of_le h2 hF.size,h3,fun i hi=>by
   rw[←h4 i hi];exact World.cell?_of_block (w:=w) (hF.block b h2 h3)⟩
theorem vraw_p(h:Sp w0 w c A)(kind:Int)(ws:List Int)(hws: ∀x,x∈ws→W64 x)(a:Option Addr)(n cap:Nat)(hf:FpAt w c a ws)(hn:ws.length=n)(hns:n≤1000):
 Calls Tryz.prog 97 #[.pointer (some ⟨c.sb,0,none⟩),.int .i64 kind,.slice a n cap] w fun e w'=>e=.returned (zM (objF A c.m kind ws).2)∧Sp w0 w' c (objF A c.m kind ws).1:=by
 have s0:=h.s0;have CM:=Lib.hid (omake_p h.base kind (n:Int));have WX:=Lib.hid (makeF_wd h.a.wd c.m kind (n:Int)).2;have H:=Lib.hid h;have HF:=Lib.hid hf;have HN:=Lib.hid hn;have HW:=Lib.hid hws;have OB:Hid (objF A c.m kind ws=match(makeF A c.m kind n).2 with|none=>((makeF A c.m kind n).1,none)|some x=>(setN (makeF A c.m kind n).1 c.m x ws n,some x)):=Lib.hid (by unfold objF;rw[hn];rfl);clear h hf hn hws;cases ho:(makeF A c.m kind n).2 with
 |none=>
  rw[ho]at CM OB;rw[OB.out];clear ho OB WX;go_enter Tryz.func97,Tryz.ntmps97;go_wp2_with fail;refine CM.out.mono ?_;rintro e w1 ⟨rfl,h1⟩;simp only[zM];go_wp2;go_ret2;exact⟨rfl,H.out.join h1⟩
 |some x=>
  rw[ho]at CM OB;rw[OB.out];have hx:=Lib.hid (WX.out x ho);clear ho OB WX;generalize (makeF A c.m kind (n:Int)).1=A1 at*;go_enter Tryz.func97,Tryz.ntmps97;go_wp2_with fail;refine CM.out.mono ?_;rintro e w1 ⟨rfl,h1⟩;have h1:Hid (Sp w w1 c (setN A1 c.m x ws 0)):=Lib.hid h1;simp only[zM];clear CM;go_wp2_with fail;go_loopw [27] (fun y wr=> ∃k:Nat,k≤n∧y=.int .i64 (k:Int)∧Hid (Sp w wr c (setN A1 c.m x ws k))) (fun y _=>n-(intOf y).toNat)
  case atStart=>exact⟨0,Nat.zero_le _,rfl,h1⟩
  case round=>
   obtain⟨k,hk,rfl,hS⟩:=hrel;clear h1;by_cases hlt:k<n
   ·have hr:=HF.out.keep hS.out.fr;rcases hr with hr|⟨b,o,rfl,_,_,hb⟩
    ·have:=HN.out;rw[hr]at this;simp at this;omega
    have d0:=hb k (by rw[HN.out];exact hlt);have s1:=hS.out.s0;have CS:=Lib.hid (oset_p hS.out x (k:Int) (ws[k]?.getD 0) hx.out (I64.of (by omega)) (w64_nth HW.out k));have FIN:Hid (∀w2,Sp w w2 c (stF (setN A1 c.m x ws k) c.m x (k:Int) (ws[k]?.getD 0))→Sp w w2 c (setN A1 c.m x ws (k+1))):=Lib.hid (fun w2 h=>h);obtain⟨y,hy⟩: ∃y,y=ws[k]?.getD 0:=⟨_,rfl⟩;rw[←hy]at d0 CS FIN;clear hy hb;go_wp2_with fail;refine CS.out.mono ?_;rintro e w2 ⟨⟨z,rfl⟩,h2⟩;have h2:=Lib.hid h2;go_wp2;go_roundw
    case rel=>exact⟨k+1,by omega,by go_num,Lib.hid (FIN.out _ h2.out)⟩
    case measure=>simp[intOf];omega
   ·have hkn:k=n:=by omega
    subst hkn;go_wp2;go_ret2;exact⟨rfl,H.out.join hS.out⟩
theorem vobject_p(h:Sp w0 w c A)(kind:Int)(hk:kind<16)(ws:List Int)(hws: ∀x,x∈ws→W64 x)(a:Option Addr)(n cap:Nat)(hf:FpAt w c a ws)(hn:ws.length=n)(hns:n≤1000):
 Calls Tryz.prog 64 #[.pointer (some ⟨c.sb,0,none⟩),.int .i64 kind,.slice a n cap] w fun e w'=>e=.returned (zM (objF A c.m kind ws).2)∧Sp w0 w' c (objF A c.m kind ws).1:=by
 have CR:=Lib.hid (vraw_p h kind ws hws a n cap hf hn hns)
 have RW:Hid (∀w,Calls Tryz.prog 96 #[.int .i64 kind] w fun e w'=>e=.returned (.bool false)∧w=w'):=Lib.hid (fun w=>by
  have:=raw_c w kind
  rwa[decide_eq_false (by omega)]at this)
 clear h hws hf hn;obtain⟨r,hr⟩: ∃r,r=objF A c.m kind ws:=⟨_,rfl⟩;rw[←hr]at CR⊢;obtain⟨A1,o⟩:=r;clear hr;cases o with
 |none=>
  go_enter Tryz.func64,Tryz.ntmps64;go_wp2_with fail;refine(RW.out _).mono ?_;rintro e w' ⟨rfl,rfl⟩;go_wp2_with fail;refine CR.out.mono ?_;rintro e w1 ⟨rfl,h1⟩;simp only[zM];go_wp2;go_ret2;exact⟨rfl,h1⟩
 |some x=>
  go_enter Tryz.func64,Tryz.ntmps64;go_wp2_with fail;refine(RW.out _).mono ?_;rintro e w' ⟨rfl,rfl⟩;go_wp2_with fail;refine CR.out.mono ?_;rintro e w1 ⟨rfl,h1⟩;simp only[zM];go_wp2;go_ret2;exact⟨rfl,h1⟩
theorem low_lt(h:Sp w0 w c A){x:Nat}(hx:x∈c.low):x<w.heap.size:=by
 unfold Sk.low at hx;simp only[List.mem_cons,List.not_mem_nil,or_false]at hx;rcases hx with rfl|rfl|rfl
 ·exact zF h.a.h.ar.hb
 ·exact zF h.a.h.ar.hw
 ·exact zF h.a.h.ar.hl
theorem fp_new(h:Sp w0 w c A)(ws:List Int)(t:TypeId)(w2:World)(h2:blk w2 w.heap.size=some (.cells (ws.map (Value.int .u64)).toArray t (0,0))):FpAt w2 c (some ⟨w.heap.size,0,none⟩) ws:=
 .inr ⟨w.heap.size,0,rfl,zF h2,fun hx=>by have:=low_lt h hx;omega,fun i hi=>by
  rw[Nat.zero_add];exact zA h2 (by simp[hi])⟩
def KbAt(w:World)(c:Sk):Prop:=blk w c.kb=some (.cells #[.pointer (some ⟨c.sb,0,none⟩),.slice none 0 0,.bool c.rem,.pointer none] 92 (0,0))
theorem KbAt.cell(h:KbAt w c):w.cell? ⟨c.kb,0,none⟩=some (.pointer (some ⟨c.sb,0,none⟩)):=zA h rfl
theorem vobj4_p(kind a b d e:Int)(hk:kind<16)(ha:W64 a)(hb:W64 b)(hd:W64 d)(he:W64 e)(h:Sp w0 w c A):Calls Tryz.prog 64 #[.pointer (some ⟨c.sb,0,none⟩),.int .i64 kind,.slice (some ⟨w.heap.size,0,none⟩) 4 4] (w.alloc (.cells #[.int .u64 a,.int .u64 b,.int .u64 d,.int .u64 e] 28)).drew fun e' w'=>e'=.returned (zM (objF A c.m kind [a,b,d,e]).2)∧Sp w0 w' c (objF A c.m kind [a,b,d,e]).1:=
 vobject_p (h.alloc _).drew kind hk [a,b,d,e] (by
  intro x hx;simp at hx;rcases hx with rfl|rfl|rfl|rfl<;>assumption) _ 4 4 (fp_new h _ 28 _ (by rw[blk_drew,zB,if_pos rfl];rfl)) rfl (by omega)
theorem kfiber_p(h:Sp w w c A)(hK:KbAt w c)(hkn:c.kb∉c.low):Calls Tryz.prog 61 #[.pointer (some ⟨c.kb,0,none⟩),.int .u64 45,.int .u64 45] w fun e w'=>e=.returned (zM (fibF A c.m 45 45).2)∧Sp w w' c (fibF A c.m 45 45).1∧KbAt w' c:=by
 have k0:=hK.cell;have KE:Hid (∀w1,Sp w w1 c A→KbAt w1 c):=Lib.hid (fun w1 h1=>h1.fr.at hK hkn);have KE2:Hid (∀w1 A1,Sp w w1 c A1→KbAt w1 c):=Lib.hid (fun w1 A1 h1=>h1.fr.at hK hkn);have CO:Hid (∀w1,Sp w w1 c A→_):=Lib.hid (fun w1 h1=>vobj4_p 7 45 45 (smW (-1)) 45 (by omega) zG zG (zH _) zG h1);have SM:Hid (∀w,_):=Lib.hid (fun w=>zb (-1) w (by omega) (by omega));unfold fibF;obtain⟨r,hr⟩: ∃r,r=objF A c.m 7 [45,45,smW (-1),45]:=⟨_,rfl⟩;rw[←hr]at CO⊢;obtain⟨A1,o⟩:=r;clear hr;generalize smW (-1)=sm at*;obtain⟨x,b,hxb⟩:=wordVal_tuple o;simp only[hxb]at CO⊢;clear hxb;have hd:=h.drew;go_enter Tryz.func61,Tryz.ntmps61;go_wp2;go_region_held3 (fun w_=>w_.cell? ⟨c.kb,0,none⟩=some (.pointer (some ⟨c.sb,0,none⟩))) (with_reducible first|exact(KE2.out _ _ h9).cell|exact KbAt.cell (KE.out _ h)|exact KbAt.cell (KE.out _ (Sp.drew h))|exact KbAt.cell (KE.out _ (Sp.drew (Sp.alloc h _)))|exact KbAt.cell (KE.out _ (Sp.alloc h _))) (first|(go_at_call 49;refine Calls.mono (zK _) ?_;rintro e w' ⟨rfl,rfl⟩)|(go_at_call 62;refine Calls.mono (SM.out _) ?_;rintro e w' ⟨rfl,rfl⟩)|(go_at_call 64;refine Calls.mono (CO.out _ h) ?_;rintro e w9 ⟨rfl,h9⟩))
 all_goals
  go_wp2;go_ret2;exact⟨rfl,h9,KE2.out _ _ h9⟩
structure Ge(B:Nat)(c:Sk):Prop where
 sb:B≤c.sb
 hb:B≤c.hb
 b:B≤c.b
 wb:B≤c.wb
 lb:B≤c.lb
def NewSp(m:Nat)(w:World)(e:Ending)(w':World):Prop:= ∃c:Sk,e=.returned (.pointer (some ⟨c.sb,0,none⟩))∧c.m=m∧Sp w' w' c (Ar.new m)∧Fr [] w w'∧Ge w.heap.size c
theorem new_wd(m:Nat):(Ar.new m).Wd:=by
 intro x hx;simp only[Ar.new,zeros]at hx;have:=(List.mem_replicate.1 hx).2;omega
theorem vnew_c(n:Int)(m:Nat)(hm:blocksOf n=m)(h1:1≤m)(h2:m≤4096)(w:World):Calls Tryz.prog 13 #[.int .i64 n] w (NewSp m w):=by
 have CN:=Lib.hid (onew_c n w);rw[hm]at CN;have hmm:= @run_makeMap Tryz.prog;clear hm;go_enter Tryz.func13,Tryz.ntmps13;go_wp2_with fail;refine CN.out.mono ?_;rintro e w1 ⟨hb,b,wb,lb,rfl,hH,F1,g0,g1,g2,g3⟩;have HH:=Lib.hid hH;have F1:=Lib.hid F1;clear CN hH;have l1:=zF HH.out.p;have l2:=zF HH.out.ar.hb;have l3:=zF HH.out.ar.hw;have l4:=zF HH.out.ar.hl;have s1:=F1.out.size
 have D:Hid (NewSp m w (.returned (.pointer (some ⟨w1.heap.size+1,0,none⟩))) ((w1.alloc (.map #[] 0)).alloc (.cells #[.pointer (some ⟨hb,0,none⟩),.slice none 0 0,.map (some w1.heap.size)] 107))):=Lib.hid (by
  have n1:=HH.out.n1;have n2:=HH.out.n2;have n3:=HH.out.n3;have n4:=HH.out.ar.n1;have n5:=HH.out.ar.n2;have n6:=HH.out.ar.n3;refine⟨⟨0,w1.heap.size+1,0,hb,b,wb,lb,m,false,.slice none 0 0,.map (some w1.heap.size)⟩,rfl,rfl,⟨⟨?_,HH.out.keep (((Fr.refl [] _).alloc _).alloc _),Ar.new_ok m h1 h2,new_wd m, ?_⟩,Fr.refl _ _⟩,(F1.out.alloc _).alloc _,⟨?_,g0,g1,g2,g3⟩⟩
  ·rw[zB,if_pos (by simp)]
  ·simp only[List.nodup_cons,List.mem_cons,List.not_mem_nil,or_false,not_or,List.nodup_nil,and_true,not_false_eq_true];omega
  ·show w.heap.size≤w1.heap.size+1
   omega)
 clear l1 l2 l3 l4 s1 g0 g1 g2 g3 F1 HH;go_wp2;go_ret;exact D.out
structure Gs(B:Nat)(c:Sk):Prop where
 g:Ge B c
 kb:B≤c.kb
 rb:B≤c.rb
theorem Gs.own{B:Nat}(h:Gs B c): ∀x,x∈c.own→B≤x:=by
 intro x hx;unfold Sk.own at hx;simp only[List.mem_cons,List.not_mem_nil,or_false]at hx;rcases hx with rfl|rfl|rfl|rfl|rfl
 ·exact h.kb
 ·exact h.rb
 ·exact h.g.b
 ·exact h.g.wb
 ·exact h.g.lb
def NewSt(m:Nat)(rem:Bool)(A1:Ar)(f:Int)(w:World)(B:Nat)(e:Ending)(w':World):Prop:= ∃c:Sk,e=.returned (.tuple #[.pointer (some ⟨c.kb,0,none⟩),.bool true])∧c.m=m∧c.rem=rem∧St w' w' c A1 f (.pointer none)∧Gs B c∧(∀B0,B0.heap.size≤B→Fr [] B0 w→Fr [] B0 w')
set_option maxHeartbeats 1000000 in
theorem knew_c(h:Sp w w c A)(rem:Bool)(B:Nat)(hB:B≤w.heap.size)(hg:Ge B c)(f:Int)(hf:(fibF A c.m 45 45).2=some f)(hw:W64 f):Calls Tryz.prog 14 #[.pointer (some ⟨c.sb,0,none⟩),.bool rem] w (NewSt c.m rem (fibF A c.m 45 45).1 f w B):=by
 obtain⟨c2,hc2⟩: ∃c2:Sk,c2=⟨w.heap.size,c.sb,0,c.hb,c.b,c.wb,c.lb,c.m,rem,c.nv,c.mv⟩:=⟨_,rfl⟩
 have h2:Sp (w.alloc (.cells #[.pointer (some ⟨c.sb,0,none⟩),.slice none 0 0,.bool rem,.pointer none] 92)) (w.alloc (.cells #[.pointer (some ⟨c.sb,0,none⟩),.slice none 0 0,.bool rem,.pointer none] 92)) c2 A:=by
  rw[hc2];have:=h.alloc (.cells #[.pointer (some ⟨c.sb,0,none⟩),.slice none 0 0,.bool rem,.pointer none] 92);exact⟨⟨this.a.s,this.a.h,this.a.ok,this.a.wd,this.a.ap⟩,Fr.refl _ _⟩
 have hk2:KbAt (w.alloc (.cells #[.pointer (some ⟨c.sb,0,none⟩),.slice none 0 0,.bool rem,.pointer none] 92)) c2:=by
  rw[hc2];unfold KbAt;rw[zB,if_pos rfl]
 have hlow:c2.low=c.low:=by rw[hc2];rfl
 have hkb:c2.kb=w.heap.size:=by rw[hc2]
 have CF:=kfiber_p h2 hk2 (by rw[hlow,hkb];intro hm;have:=low_lt h hm;omega);have hm2:c2.m=c.m:=by rw[hc2]
 rw[hm2,hf,hkb]at CF;simp only[zM]at CF;have CF:=Lib.hid CF;have C2:=Lib.hid hc2;have H:=Lib.hid h;have HG:=Lib.hid hg;have HW:=Lib.hid hw;generalize (fibF A c.m 45 45).1=A1 at*;clear hf h2 hk2 hlow hkb hm2 hc2 h hg hw;go_enter Tryz.func14,Tryz.ntmps14;go_wp2_with (first|(go_at_call 49;refine(zK _).mono ?_;rintro e w' ⟨rfl,rfl⟩));refine CF.out.mono ?_;rintro e w1 ⟨rfl,h1,hk1⟩
 have hk1':blk w1 w.heap.size=some (.cells #[.pointer (some ⟨c.sb,0,none⟩),.slice none 0 0,.bool rem,.pointer none] 92 (0,0)):=by
  have:=hk1;unfold KbAt at this;rw[C2.out]at this;exact this
 have c1:w1.cell? ⟨w.heap.size,1,none⟩=some (.slice none 0 0):=zA hk1' rfl;have f1:w1.frozen? ⟨w.heap.size,1,none⟩=false:=zE hk1';have lk:w.heap.size<w1.heap.size:=zF hk1'
 have D:Hid (NewSt c.m rem A1 f w B (.returned (.tuple #[.pointer (some ⟨w.heap.size,0,none⟩),.bool true])) ((w1.setCell ⟨w.heap.size,1,none⟩ (.slice (some ⟨w1.heap.size,0,none⟩) 1 1)).alloc (.cells #[.int .u64 f] 28))):=Lib.hid (by
  have l0:w.heap.size<w1.heap.size:=zF hk1';have hs:=h1.a;have hc:=C2.out;have q1:=zF hs.s;have q2:=zF hs.h.p;have q3:=zF hs.h.ar.hb;have q4:=zF hs.h.ar.hw;have q5:=zF hs.h.ar.hl;rw[hc]at q1 q2 q3 q4 q5 hs;simp only at q1 q2 q3 q4 q5;have p1:=zF H.out.a.s;have p2:=zF H.out.a.h.p;have p3:=zF H.out.a.h.ar.hb;have p4:=zF H.out.a.h.ar.hw;have p5:=zF H.out.a.h.ar.hl;have hF:Fr [w.heap.size] w1 ((w1.setCell ⟨w.heap.size,1,none⟩ (.slice (some ⟨w1.heap.size,0,none⟩) 1 1)).alloc (.cells #[.int .u64 f] 28)):=((Fr.refl _ _).setCell (by simp) _).alloc _;have key: ∀x,x≠w.heap.size→x∉ [w.heap.size]:=fun x hx hm=>by simp at hm;exact hx hm
  have ap:=H.out.a.ap;simp only[List.nodup_cons,List.mem_cons,List.not_mem_nil,or_false,not_or,List.nodup_nil,and_true,not_false_eq_true]at ap;refine⟨⟨w.heap.size,c.sb,w1.heap.size,c.hb,c.b,c.wb,c.lb,c.m,rem,c.nv,c.mv⟩,rfl,rfl,rfl,⟨⟨?_,hF.at hs.s (key _ (by show c.sb≠_;omega)), ?_,hs.h.fr hF (key _ (by show c.hb≠_;omega)) (key _ (by show c.b≠_;omega)) (key _ (by show c.wb≠_;omega)) (key _ (by show c.lb≠_;omega)),hs.ok,hs.wd,HW.out, ?_⟩,Fr.refl _ _⟩,⟨⟨HG.out.sb,HG.out.hb,HG.out.b,HG.out.wb,HG.out.lb⟩,hB, ?_⟩, ?_⟩
  ·show blk _ w.heap.size=_
   rw[zB,if_neg (by rw[size_set];omega),zD,if_pos rfl,hk1'];rfl
  ·show blk _ w1.heap.size=_
   rw[zB,if_pos (by rw[size_set])]
  ·simp only[List.nodup_cons,List.mem_cons,List.not_mem_nil,or_false,not_or,List.nodup_nil,and_true,not_false_eq_true];omega
  ·show B≤w1.heap.size
   omega
  ·intro B0 hb0 hF0
   have g1:Fr c.low w w1:=by
    have:=h1.fr;rw[hc]at this;exact(((Fr.refl c.low w).alloc _)).same this
   have g2:Fr [] B0 w1:=hF0.trans g1 (fun x hx=>by
    right;unfold Sk.low at hx;simp only[List.mem_cons,List.not_mem_nil,or_false]at hx;have:=HG.out;rcases hx with rfl|rfl|rfl
    ·have:=HG.out.b;omega
    ·have:=HG.out.wb;omega
    ·have:=HG.out.lb;omega)
   exact g2.trans hF (fun x hx=>by
    right;simp at hx;subst hx;omega))
 clear hk1' h1 hk1 CF;go_wp2;go_ret2;exact D.out
end
end Go.Proofs.YtghkahcogphomaaGreat
