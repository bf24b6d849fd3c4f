/- Texts of this seat's, what the claim needs of them. -/
import Derived.Test.YtlakomilichhnaaGreatDoorZOi
import Derived.Test.YtlakomilichhnaaGreatDoorZOk
import Derived.Test.YtlakomilichhnaaGreatDoorZOx
namespace Go.Proofs.YtlakomilichhnaaGreatDoor
set_option maxHeartbeats 3200000
set_option maxRecDepth 100000
open Go.RowKit
open Go renaming Addr→Ao,Calls→Ac,Value→Ah,World→A9,callFunc→E5,cell_later→A0,info_parts→BR,maxLen→Au,zeroValue→M0
open Instr renaming lookup→NP,makeFunc→Cl
open Ix renaming Dist→IS,IA→DA,OwnI→BO,PT→Cx,nkey→Io,phrase→Jm
open Ix.IA renaming of_own→BW
open Lib renaming hid→J
open List renaming any_append→NK,getElem?_eq_getElem→A7,length_append→Af,length_eq_one_iff→E2,length_filter_le→Bo,length_map→At,map_append→AS,mem_map→B3,mem_of_getElem?→Ag,mem_singleton→Bf,nil_append→D0,take_add_one→C8,take_length→Ap,take_zero→Bt
open Nat renaming add_zero→Bs,le_refl→An,le_trans→AK,zero_le→Ae,zero_mul→Ew
open Option renaming none→A4,some→A2
open Proofs renaming enters_of→G2
open Proofs.Tryz renaming prog→A3,underlying35→Bl,underlying63→GL
open Qr renaming Qy→BK,take_snoc→DV
open Rc renaming Rd→BF,cell_lt→Mi,year→DU
open RowKit renaming Below→A6,intOf→Ad
open RowKit.Below renaming refl→Ab
open Sr renaming Fd→GY,In64→Ga,Rg→FH,ev→DD,evalQ→J0,leafX→BQ,ownI_le→G6,yrB→Ic
open Tx renaming below_drewN→Ba,newb→Aa,step→A8
open Vm renaming Map→Hr,ins_step→Hg,upd→J9,upd_other→D4,upd_same→FY
open World renaming cell?_of_block→Dh,cell?_setCell_other→Ly,ownsRow_nil→AH,setCell→CO
namespace Qr
end Qr
namespace Rc
end Rc
namespace Vm
theorem Map.look_ok {k:TypeId}{w:A9}{M n:Nat}{f:Lit→Option Ah} (h:Map k w M n f) (K:Maps.Keyed A3 k) {t e:TypeId} (ht:A3.underlying t=A2 (.map k e)) {z:Ah} (hz:(M0 e).run A3 w=.ok z w) {key:Ah}{kl:Lit} (hkey:keyOf A3 k key=A2 kl) {v:Ah} (hv:(f kl).getD z=v) :
  (NP t (.map (A2 M)) key true).run A3 w=.ok (.tuple #[v,.bool (f kl).isSome]) w:=by
 obtain⟨D,h1,h2⟩:=h.d
 obtain⟨u,ps,hrun,hu⟩:=h1.look_ok K ht hz (zd:=.held z) (zp:=[]) rfl hkey
 rw[(h2 kl).2]at hu
 rw[(h2 kl).1]at hrun
 have e:u=v:=by
  injection hu with hu
  injection hu with hu
  cases hf:f kl with
  | none=>rw[hf]at hu hv;injection hu with hu;rw[hu];exact hv
  | some x=>rw[hf]at hu hv;injection hu with hu;rw[hu];exact hv
 rw[hrun,e]
end Vm
namespace Sr
open Rc hiding bys
open Qr
open Classical in
noncomputable def knowF (l:List Rd):Lit→Option Ah:=fun kl=>if ∃ r∈l,kl=.int .i64 r.id then A2 (.bool true) else A4
theorem knowF_at (l:List Rd) (n:Int):(knowF l (.int .i64 n)).getD (.bool false)=.bool (decide (n∈l.map (·.id))):=by
 unfold knowF
 by_cases h:∃ r∈l,Lit.int .i64 n=.int .i64 r.id
 ·rw[if_pos h]
  obtain⟨r,hr,e⟩:=h
  injection e with _ e
  rw[decide_eq_true (B3.2 ⟨r,hr,e.symm⟩)]
  rfl
 ·rw[if_neg h,decide_eq_false]
  ·rfl
  ·intro h1
   obtain⟨r,hr,e⟩:=B3.1 h1
   exact h ⟨r,hr,by rw[e]⟩
theorem in64_wf {x:Int} (h:In64 x):(Lit.int .i64 x).wf=true:=WalkArith.wf_i64 (by unfold In64 at h;omega)
theorem in64_key {x:Int} (h:In64 x):keyOf A3 3 (.int .i64 x)=A2 (.int .i64 x):=Maps.keyOf_int_mk Tryz.underlying3 (in64_wf h)
theorem bzero (w:A9):(M0 4).run A3 w=.ok (.bool false) w:=by kernel_rfl
structure CapK (w:A9) (bx P MI nI:Nat) (l:List Rd):Prop where
 k0:w.cell? ⟨bx,0,A4⟩=A2 (.pointer (A2 ⟨P,0,A4⟩))
 k2:w.cell? ⟨P,2,A4⟩=A2 (.map (A2 MI))
 mi:Hr 3 w MI nI (knowF l)
theorem CapK.grown {w w':A9}{bx P MI nI:Nat}{l:List Rd}{row:Option Nat} (h:CapK w bx P MI nI l) (hg:w.grownBy w' row) (h1:A2 bx≠row) (h2:A2 P≠row) (h3:A2 MI≠row):CapK w' bx P MI nI l :=
 ⟨(Dh (hg.block bx (Mi h.k0) h1)).trans h.k0,(Dh (hg.block P (Mi h.k2) h2)).trans h.k2,h.mi.kept hg h3⟩
end Sr
theorem sr_known1_enters:∀ args w,(E5 147 args).run A3 w=.ok (.enter 147 args) w:=G2 Tryz.func147 (by kernel_rfl) rfl
theorem sr_known1_c (l:List BF) (bx P MI nI:Nat) (x:Int) (w:A9) (h:Sr.CapK w bx P MI nI l) (hx:Ga x) :
  Ac A3 147 #[.int .i64 x,.pointer (A2 ⟨bx,0,A4⟩)] w fun e w'=>e=.returned (.bool (!decide (x∈l.map (·.id))))∧w=w':=by
 obtain⟨k0,k2,mi⟩:=h
 have hrun:=mi.look Io Tryz.underlying62 (Sr.bzero w) (Sr.in64_key hx) (Sr.knowF_at l x)
 obtain⟨b,hb⟩:∃ b,decide (x∈l.map (·.id))=b:=⟨_,rfl⟩
 rw[hb]at hrun ⊢
 clear mi hb hx
 go_enter Tryz.func147,Tryz.ntmps147
 go_wp2
 go_ret
 exact⟨rfl,rfl⟩
namespace Sr
open Rc hiding bys
open Qr
abbrev fnW (P:Nat):Ah:=.func (.func 34) #[.pointer (A2 ⟨P,0,A4⟩)] #[]
abbrev fnY (P:Nat):Ah:=.func (.func 35) #[.pointer (A2 ⟨P,0,A4⟩)] #[]
abbrev fnK (P:Nat):Ah:=.func (.func 36) #[.pointer (A2 ⟨P,0,A4⟩)] #[]
noncomputable def findF (P:Nat):Lit→Option Ah :=
 J9 (J9 (J9 (J9 (J9 (J9 (J9 (fun _=>A4) (.int .i64 1) (fnW P)) (.int .i64 2) (fnW P)) (.int .i64 3) (fnW P)) (.int .i64 4) (fnY P)) (.int .i64 5) (fnK P)) (.int .i64 6) (fnK P)) (.int .i64 7) (fnK P)
theorem ne_lit {a b:Int} (h:a≠b):Lit.int .i64 a≠.int .i64 b:=fun e=>h (by injection e)
theorem findF_w {o:Int} (P:Nat) (h:o=1∨o=2∨o=3):findF P (.int .i64 o)=A2 (fnW P):=by
 unfold findF
 rw[D4 _ _ (ne_lit (by omega)),D4 _ _ (ne_lit (by omega)),D4 _ _ (ne_lit (by omega)),D4 _ _ (ne_lit (by omega))]
 rcases h with rfl | rfl | rfl
 ·rw[D4 _ _ (ne_lit (by omega)),D4 _ _ (ne_lit (by omega)),FY]
 ·rw[D4 _ _ (ne_lit (by omega)),FY]
 ·rw[FY]
theorem findF_y (P:Nat):findF P (.int .i64 4)=A2 (fnY P):=by
 unfold findF
 rw[D4 _ _ (ne_lit (by omega)),D4 _ _ (ne_lit (by omega)),D4 _ _ (ne_lit (by omega)),FY]
theorem findF_k {o:Int} (P:Nat) (h:o=5∨o=6∨o=7):findF P (.int .i64 o)=A2 (fnK P):=by
 unfold findF
 rcases h with rfl | rfl | rfl
 ·rw[D4 _ _ (ne_lit (by omega)),D4 _ _ (ne_lit (by omega)),FY]
 ·rw[D4 _ _ (ne_lit (by omega)),FY]
 ·rw[FY]
structure Gx (T:List Cx):Prop where
 len:T.length≤2500000000
 wl:∀ t∈T,t.1.word.length≤140737488351232
 al:∀ t∈T,t.1.at_.length≤9223372036854775807
 ids:∀ t∈T,In64 t.1.id
 asc:Ix.Asc (T.map (·.1))
 at0:∀ t∈T,∀ n∈t.1.at_,0≤n∧n≤9223372036854775807
structure Ev (w:A9) (P MI MF nI:Nat) (T:List Cx) (xa:Option Ao) (xc:Nat) (l:List Rd) (la:Option Ao) (lc:Nat):Prop where
 c0:w.cell? ⟨P,0,A4⟩=A2 (.slice xa T.length xc)
 c1:w.cell? ⟨P,1,A4⟩=A2 (.slice la l.length lc)
 c2:w.cell? ⟨P,2,A4⟩=A2 (.map (A2 MI))
 c3:w.cell? ⟨P,3,A4⟩=A2 (.map (A2 MF))
 px:Ix.PsA w xa xc T
 rl:Rc.RdA w la lc l
 mi:Hr 3 w MI nI (knowF l)
 mf:Hr 3 w MF 7 (findF P)
variable {w w' : A9} {P MI MF nI : Nat} {T : List Cx} {xa : Option Ao} {xc : Nat} {l : List Rd} {la : Option Ao} {lc : Nat}
theorem Ev.below (h:Ev w P MI MF nI T xa xc l la lc) (hb:A6 w.heap.size w w'):Ev w' P MI MF nI T xa xc l la lc :=
 ⟨A0 hb h.c0,A0 hb h.c1,A0 hb h.c2,A0 hb h.c3,h.px.below hb,h.rl.below hb,h.mi.below hb,h.mf.below hb⟩
theorem word_in64 {T:List Cx} (h:∀ t∈T,In64 t.1.id) {x:List Ix.Post} (hx:T.map (·.1)=x) {p:Ix.Post→Bool}:∀ n∈Cp.puts Cp.ltI ((x.filter p).map (·.id)),In64 n:=by
 intro n hn
 rw[Cp.puts_mem,B3]at hn
 obtain⟨q,hq,rfl⟩:=hn
 have hq:=(List.mem_filter.1 hq).1
 rw[← hx]at hq
 obtain⟨t,ht,rfl⟩:=B3.1 hq
 exact h t ht
end Sr
theorem sr_known_c (P MI MF nI:Nat) (T:List Cx) (xa:Option Ao) (xc:Nat) (l:List BF) (la:Option Ao) (lc:Nat) (L:List Int) (ia:Option Ao) (ic:Nat) (w:A9) (hE:Sr.Ev w P MI MF nI T xa xc l la lc) (hL:DA w ia ic L) (hr:∀ x∈L,Ga x) (hl:L.length≤1000000000000) :
  Ac A3 80 #[.pointer (A2 ⟨P,0,A4⟩),.slice ia L.length ic] w fun e w'=>∃ v,e=.returned v∧BO w' w.heap.size v (L.filter fun n=>decide (n∈l.map (·.id)))∧A6 w.heap.size w w':=by
 have hmf:∀ (fn:Fn) (first cap:Array Ah) (w:A9),(Cl fn first cap).run A3 w=.ok (.func fn first cap) w:=fun _ _ _ _=>rfl
 obtain⟨W,hW⟩:∃ W,w.alloc (.cells #[.pointer (A2 ⟨P,0,A4⟩)] 61)=W:=⟨_,rfl⟩
 have hB:A6 w.heap.size w W:=by rw[← hW];exact Aa _ _
 have hWs:W.heap.size=w.heap.size+1:=by rw[← hW];simp
 have k0:W.cell? ⟨w.heap.size,0,A4⟩=A2 (.pointer (A2 ⟨P,0,A4⟩)):=by rw[← hW];simp
 have hPl:=Mi hE.c2
 have hMl:=hE.mi.lt
 have hEW:=hE.below hB
 have hCK:Sr.CapK W w.heap.size P MI nI l:=⟨k0,hEW.c2,hEW.mi⟩
 have HCL:=J (cloneI_c L ia ic W (hL.below hB) hl)
 have HCK:=J hCK
 have HR:=J hr
 have HD:Hid (∀ (v:Ah) (w1:A9),BO w1 W.heap.size v L→A6 W.heap.size W w1→Ac A3 85 #[v,.func (.func 147) #[] #[.pointer (A2 ⟨w.heap.size,0,A4⟩)]] w1 fun e w'=>∃ v',e=.returned v'∧BO w' W.heap.size v' (L.filter fun n=>decide (n∈l.map (·.id)))∧w1.grownBy w' v.ownBlock):=J (fun v w1 ho hb1=>by
  have hC1:=HCK.out.grown (Sr.grown_below hb1 A4) (by simp) (by simp) (by simp)
  have hlow:=fun g hg=>(ho.lt g hg).1
  have hne:∀ b,b<W.heap.size→A2 b≠v.ownBlock:=fun b hb e=>by have:=hlow b e.symm;omega
  have hd:=delI_c 147 #[.pointer (A2 ⟨w.heap.size,0,A4⟩)] sr_known1_enters (fun x=>!decide (x∈l.map (·.id))) L v W.heap.size w1 ho HR.out hl (fun x hx W' hg=>(sr_known1_c l w.heap.size P MI nI x W' (hC1.grown hg (hne _ (by omega)) (hne _ (by omega)) (hne _ (by omega))) hx).mono fun e w' ⟨he,hw⟩=>⟨he,0,hw▸(World.drewN_zero W').symm⟩)
  refine hd.mono fun e w' ⟨v',he,ho',_,hg⟩=>⟨v',he,?_,hg⟩
  have e9:(L.filter fun x=>!!decide (x∈l.map (·.id)))=L.filter fun n=>decide (n∈l.map (·.id)):=by congr 1;funext x;rw[Bool.not_not]
  rwa [e9]at ho')
 clear hE hL hr hEW hCK k0
 go_enter Tryz.func80,Tryz.ntmps80
 go_wp2_with (first
  |(go_at_call 85;((with_reducible refine (HD.out _ _ HO1.out HB1.out).mono ?_);rintro e w2 ⟨v2,rfl,ho2,hg2⟩;have HO2:=J ho2;clear ho2))
  |(go_at_call 53;((with_reducible refine HCL.out.mono ?_);rintro e w1 ⟨v1,rfl,ho1,hb1⟩;have HO1:=J ho1;have HB1:=J hb1;clear ho1 hb1)))
 go_ret
 exact⟨_,rfl,G6 HO2.out (by omega),A8 hB (HB1.out.grown hg2 HB1.out.size (fun i hi=>(HO1.out.lt i hi).1))⟩
namespace Sr
theorem phr_sub (x:List Ix.Post) (f:Int) (ws:List Ix.By):∀ n∈Jm x f ws,∃ p∈x,p.id=n:=by
 intro n hn
 unfold Jm at hn
 rw[Cp.puts_mem]at hn
 cases ws with
 | nil=>simp[Ix.phr]at hn
 | cons s r =>
  obtain⟨p,hp,_,_,e,_⟩:=Ix.phr_mem.1 (by rw[← Cp.puts_mem (lt:=Cp.ltI)]at hn;exact hn)
  exact⟨p,hp,e⟩
theorem phr_in64 {T:List Cx} (h:∀ t∈T,In64 t.1.id) {f:Int}{ws:List Ix.By}:∀ n∈Jm (T.map (·.1)) f ws,In64 n:=by
 intro n hn
 obtain⟨p,hp,rfl⟩:=phr_sub _ _ _ n hn
 obtain⟨t,ht,rfl⟩:=B3.1 hp
 exact h t ht
theorem phr_len {T:List Cx} (hX:Gx T) (f:Int) (ws:List Ix.By) (hw:ws.length≤100000):(Jm (T.map (·.1)) f ws).length≤T.length:=by
 rw[← Ix.phr_same hX.asc hX.at0 f ws hw]
 refine AK (puts_len _ _) ?_
 unfold Ix.phrQ Ix.ofF
 refine AK (Bo _ _) ?_
 rw[At]
 exact Bo _ _
end Sr
theorem sr_words_1 (P MI MF nI:Nat) (T:List Cx) (xa:Option Ao) (xc:Nat) (l:List BF) (la:Option Ao) (lc:Nat) (f:Int) (y:ByteArray) (sa:Option Ao) (sc:Nat) (ka:Option Ao) (kc:Nat) (w:A9) (hE:Sr.Ev w P MI MF nI T xa xc l la lc) (hX:Sr.Gx T) (hw:SLA w sa sc [y]) :
  Ac A3 34 #[.pointer (A2 ⟨P,0,A4⟩),.agg #[.int .i64 1,.int .i64 f,.slice sa 1 sc,.int .i64 0,.int .i64 0,.slice ka 0 kc]] w fun e w'=>∃ v out,e=.returned v∧BO w' w.heap.size v out∧GY l (fun r=>DD (BQ (T.map (·.1)) r) (.mk 1 f [y] 0 0 [])) out∧out.length≤1000000000000∧A6 w.heap.size w w':=by
 obtain⟨W,hW⟩:∃ W,w.alloc (.cells #[.int .i64 1,.int .i64 f,.slice sa 1 sc,.int .i64 0,.int .i64 0,.slice ka 0 kc] 29)=W:=⟨_,rfl⟩
 have hB:A6 w.heap.size w W:=by rw[← hW];exact Aa _ _
 have d0:W.cell? ⟨w.heap.size,0,A4⟩=A2 (.int .i64 1):=by rw[← hW];simp
 have d1:W.cell? ⟨w.heap.size,1,A4⟩=A2 (.int .i64 f):=by rw[← hW];simp
 have d2:W.cell? ⟨w.heap.size,2,A4⟩=A2 (.slice sa 1 sc):=by rw[← hW];simp
 have d3:W.cell? ⟨w.heap.size,3,A4⟩=A2 (.int .i64 0):=by rw[← hW];simp
 have d4:W.cell? ⟨w.heap.size,4,A4⟩=A2 (.int .i64 0):=by rw[← hW];simp
 have d5:W.cell? ⟨w.heap.size,5,A4⟩=A2 (.slice ka 0 kc):=by rw[← hW];simp
 obtain⟨L,hL⟩:∃ L,Ix.word (T.map (·.1)) f y.data.toList=L:=⟨_,rfl⟩
 have hin:∀ n∈L,Ga n:=by
  rw[← hL]
  exact Sr.word_in64 hX.ids rfl
 have hlen:L.length≤2500000000:=by
  rw[← hL]
  refine AK ?_ hX.len
  refine AK (Sr.puts_len _ _) ?_;rw[At];exact AK (Bo _ _) (by rw[At];exact An _)
 have hFd:GY l (fun r=>DD (BQ (T.map (·.1)) r) (.mk 1 f [y] 0 0 [])) (L.filter fun n=>decide (n∈l.map (·.id))) :=
  (Sr.Fd.known l L).congr fun r _=>by rw[DD,if_neg (by decide),if_neg (by decide),if_neg (by decide),← hL];rfl
 have hEW:=hE.below hB
 have XC:∀ W',A6 W.heap.size W W'→_:=fun W' h9=>ix_Word_c T xa xc f y.data.toList W' (hEW.px.below h9) (by have:=hX.len;omega)
 rw[← Ix.word_T,hL]at XC
 have KC:∀ W' ia ic,A6 W.heap.size W W'→DA W' ia ic L→_:=fun W' ia ic h9 h8=>sr_known_c P MI MF nI T xa xc l la lc L ia ic W' (hEW.below h9) h8 hin (by omega)
 have HXC:=J XC
 have HKC:=J KC
 have HFD:=J hFd
 have p0:=hEW.c0
 have hWs:=hB.size
 obtain⟨b2,o2,rfl,hb2,y0⟩:=(hw.below hB).get (k:=0) (x:=y) rfl
 rw[Bs]at y0
 clear hE hX hw hin hFd XC KC hEW hL
 go_enter Tryz.func34,Tryz.ntmps34
 go_wp2
 clear hW
 go_region_held3 (fun w'=>A6 W.heap.size W w'∧w'.cell? ⟨w.heap.size,1,A4⟩=A2 (.int .i64 f)∧w'.cell? ⟨w.heap.size,2,A4⟩=A2 (.slice (A2 ⟨b2,o2,A4⟩) 1 sc)∧w'.cell? ⟨b2,o2,A4⟩=A2 (.string y)∧w'.cell? ⟨P,0,A4⟩=A2 (.slice xa T.length xc))
  (first | exact⟨(Ab _ _).drew,d1,d2,y0,p0⟩ | (go_split_ands;exact⟨A8 ‹_› hbx,by repeat' first | exact A0 hbx ‹_› | constructor⟩))
  (first
   |(go_split_ands;go_at_call 81;((with_reducible refine (HXC.out _ ‹_›).mono ?_);rintro e wx ⟨v,rfl,ho,hbx⟩;obtain⟨va,vc,rfl,hia,_⟩:=BW ho rfl;have HIA:=J hia;clear hia ho))
   |(go_split_ands;go_at_call 80;((with_reducible refine (HKC.out _ _ _ ‹_› HIA.out).mono ?_);rintro e wx ⟨v,rfl,ho,hbx⟩;have hwsz:=(by assumption:A6 W.heap.size W _).size;have HO:=J (G6 ho (AK hWs hwsz));clear ho)))
 go_split_ands
 go_wp2
 go_ret
 have hb9:A6 W.heap.size W wx:=by assumption
 have hfl:=Bo (fun n=>decide (n∈l.map (·.id))) L
 exact⟨_,_,rfl,HO.out,HFD.out,by omega,A8 hB hb9⟩
theorem sr_words_2 (P MI MF nI:Nat) (T:List Cx) (xa:Option Ao) (xc:Nat) (l:List BF) (la:Option Ao) (lc:Nat) (f:Int) (y:ByteArray) (sa:Option Ao) (sc:Nat) (ka:Option Ao) (kc:Nat) (w:A9) (hE:Sr.Ev w P MI MF nI T xa xc l la lc) (hX:Sr.Gx T) (hw:SLA w sa sc [y]) :
  Ac A3 34 #[.pointer (A2 ⟨P,0,A4⟩),.agg #[.int .i64 2,.int .i64 f,.slice sa 1 sc,.int .i64 0,.int .i64 0,.slice ka 0 kc]] w fun e w'=>∃ v out,e=.returned v∧BO w' w.heap.size v out∧GY l (fun r=>DD (BQ (T.map (·.1)) r) (.mk 2 f [y] 0 0 [])) out∧out.length≤1000000000000∧A6 w.heap.size w w':=by
 obtain⟨W,hW⟩:∃ W,w.alloc (.cells #[.int .i64 2,.int .i64 f,.slice sa 1 sc,.int .i64 0,.int .i64 0,.slice ka 0 kc] 29)=W:=⟨_,rfl⟩
 have hB:A6 w.heap.size w W:=by rw[← hW];exact Aa _ _
 have d0:W.cell? ⟨w.heap.size,0,A4⟩=A2 (.int .i64 2):=by rw[← hW];simp
 have d1:W.cell? ⟨w.heap.size,1,A4⟩=A2 (.int .i64 f):=by rw[← hW];simp
 have d2:W.cell? ⟨w.heap.size,2,A4⟩=A2 (.slice sa 1 sc):=by rw[← hW];simp
 have d3:W.cell? ⟨w.heap.size,3,A4⟩=A2 (.int .i64 0):=by rw[← hW];simp
 have d4:W.cell? ⟨w.heap.size,4,A4⟩=A2 (.int .i64 0):=by rw[← hW];simp
 have d5:W.cell? ⟨w.heap.size,5,A4⟩=A2 (.slice ka 0 kc):=by rw[← hW];simp
 obtain⟨L,hL⟩:∃ L,Ix.prefix_ (T.map (·.1)) f y.data.toList=L:=⟨_,rfl⟩
 have hin:∀ n∈L,Ga n:=by
  rw[← hL]
  exact Sr.word_in64 hX.ids rfl
 have hlen:L.length≤2500000000:=by
  rw[← hL]
  refine AK ?_ hX.len
  refine AK (Sr.puts_len _ _) ?_;rw[At];exact AK (Bo _ _) (by rw[At];exact An _)
 have hFd:GY l (fun r=>DD (BQ (T.map (·.1)) r) (.mk 2 f [y] 0 0 [])) (L.filter fun n=>decide (n∈l.map (·.id))) :=
  (Sr.Fd.known l L).congr fun r _=>by rw[DD,if_neg (by decide),if_neg (by decide),if_neg (by decide),← hL];rfl
 have hEW:=hE.below hB
 have XC:∀ W',A6 W.heap.size W W'→_:=fun W' h9=>ix_Prefix_c T xa xc f y.data.toList W' (hEW.px.below h9) (by have:=hX.len;omega)
 rw[← Ix.prefix_T,hL]at XC
 have KC:∀ W' ia ic,A6 W.heap.size W W'→DA W' ia ic L→_:=fun W' ia ic h9 h8=>sr_known_c P MI MF nI T xa xc l la lc L ia ic W' (hEW.below h9) h8 hin (by omega)
 have HXC:=J XC
 have HKC:=J KC
 have HFD:=J hFd
 have p0:=hEW.c0
 have hWs:=hB.size
 obtain⟨b2,o2,rfl,hb2,y0⟩:=(hw.below hB).get (k:=0) (x:=y) rfl
 rw[Bs]at y0
 clear hE hX hw hin hFd XC KC hEW hL
 go_enter Tryz.func34,Tryz.ntmps34
 go_wp2
 clear hW
 go_region_held3 (fun w'=>A6 W.heap.size W w'∧w'.cell? ⟨w.heap.size,1,A4⟩=A2 (.int .i64 f)∧w'.cell? ⟨w.heap.size,2,A4⟩=A2 (.slice (A2 ⟨b2,o2,A4⟩) 1 sc)∧w'.cell? ⟨b2,o2,A4⟩=A2 (.string y)∧w'.cell? ⟨P,0,A4⟩=A2 (.slice xa T.length xc))
  (first | exact⟨(Ab _ _).drew,d1,d2,y0,p0⟩ | (go_split_ands;exact⟨A8 ‹_› hbx,by repeat' first | exact A0 hbx ‹_› | constructor⟩))
  (first
   |(go_split_ands;go_at_call 82;((with_reducible refine (HXC.out _ ‹_›).mono ?_);rintro e wx ⟨v,rfl,ho,hbx⟩;obtain⟨va,vc,rfl,hia,_⟩:=BW ho rfl;have HIA:=J hia;clear hia ho))
   |(go_split_ands;go_at_call 80;((with_reducible refine (HKC.out _ _ _ ‹_› HIA.out).mono ?_);rintro e wx ⟨v,rfl,ho,hbx⟩;have hwsz:=(by assumption:A6 W.heap.size W _).size;have HO:=J (G6 ho (AK hWs hwsz));clear ho)))
 go_split_ands
 go_wp2
 go_ret
 have hb9:A6 W.heap.size W wx:=by assumption
 have hfl:=Bo (fun n=>decide (n∈l.map (·.id))) L
 exact⟨_,_,rfl,HO.out,HFD.out,by omega,A8 hB hb9⟩
theorem sr_words_3 (P MI MF nI:Nat) (T:List Cx) (xa:Option Ao) (xc:Nat) (l:List BF) (la:Option Ao) (lc:Nat) (f:Int) (ws:List ByteArray) (sa:Option Ao) (sc:Nat) (ka:Option Ao) (kc:Nat) (w:A9) (hE:Sr.Ev w P MI MF nI T xa xc l la lc) (hX:Sr.Gx T) (hw:SLA w sa sc ws) (hw0:ws≠[]) (hwn:ws.length≤8) (hwz:∀ s∈ws,s.size≤50000000) :
  Ac A3 34 #[.pointer (A2 ⟨P,0,A4⟩),.agg #[.int .i64 3,.int .i64 f,.slice sa ws.length sc,.int .i64 0,.int .i64 0,.slice ka 0 kc]] w fun e w'=>∃ v out,e=.returned v∧BO w' w.heap.size v out∧GY l (fun r=>DD (BQ (T.map (·.1)) r) (.mk 3 f ws 0 0 [])) out∧out.length≤1000000000000∧A6 w.heap.size w w':=by
 obtain⟨W,hW⟩:∃ W,w.alloc (.cells #[.int .i64 3,.int .i64 f,.slice sa ws.length sc,.int .i64 0,.int .i64 0,.slice ka 0 kc] 29)=W:=⟨_,rfl⟩
 have hB:A6 w.heap.size w W:=by rw[← hW];exact Aa _ _
 have d0:W.cell? ⟨w.heap.size,0,A4⟩=A2 (.int .i64 3):=by rw[← hW];simp
 have d1:W.cell? ⟨w.heap.size,1,A4⟩=A2 (.int .i64 f):=by rw[← hW];simp
 have d2:W.cell? ⟨w.heap.size,2,A4⟩=A2 (.slice sa ws.length sc):=by rw[← hW];simp
 have d3:W.cell? ⟨w.heap.size,3,A4⟩=A2 (.int .i64 0):=by rw[← hW];simp
 have d4:W.cell? ⟨w.heap.size,4,A4⟩=A2 (.int .i64 0):=by rw[← hW];simp
 have d5:W.cell? ⟨w.heap.size,5,A4⟩=A2 (.slice ka 0 kc):=by rw[← hW];simp
 obtain⟨L,hL⟩:∃ L,Jm (T.map (·.1)) f (ws.map (·.data.toList))=L:=⟨_,rfl⟩
 have hin:∀ n∈L,Ga n:=by
  rw[← hL]
  exact Sr.phr_in64 hX.ids
 have hlen:L.length≤2500000000:=by
  rw[← hL]
  refine AK ?_ hX.len
  exact Sr.phr_len hX f _ (by rw[At];omega)
 have hFd:GY l (fun r=>DD (BQ (T.map (·.1)) r) (.mk 3 f ws 0 0 [])) (L.filter fun n=>decide (n∈l.map (·.id))) :=
  (Sr.Fd.known l L).congr fun r _=>by rw[DD,if_neg (by decide),if_neg (by decide),if_neg (by decide),← hL];rfl
 have hEW:=hE.below hB
 have hwm:(ws.map (·.data.toList)).map (fun x=>(⟨x.toArray⟩:ByteArray))=ws:=by rw[List.map_map];exact (List.map_congr_left (fun x _=>rfl)).trans (List.map_id _)
 have XC:∀ W',A6 W.heap.size W W'→_:=fun W' h9=>ix_Phrase_c T xa xc f (ws.map (·.data.toList)) sa sc W' (hEW.px.below h9) (by have:=hX.len;omega) (by rw[hwm];exact (hw.below hB).below h9) (by rw[At];omega) (fun s hs=>by obtain⟨x,hx,rfl⟩:=B3.1 hs;rw[Array.length_toList];exact hwz x hx) hX.wl (fun t ht=>hX.ids t ht)
 rw[At,Ix.phr_same hX.asc hX.at0 f _ (by rw[At];omega),hL]at XC
 have KC:∀ W' ia ic,A6 W.heap.size W W'→DA W' ia ic L→_:=fun W' ia ic h9 h8=>sr_known_c P MI MF nI T xa xc l la lc L ia ic W' (hEW.below h9) h8 hin (by omega)
 have HXC:=J XC
 have HKC:=J KC
 have HFD:=J hFd
 have p0:=hEW.c0
 have hWs:=hB.size
 have hwp:(ws.length:Int)≠0:=by have:=List.length_pos_iff.2 hw0;omega
 have hwq:((ws.length:Int) == 0)=false:=beq_eq_false_iff_ne.2 hwp
 clear hE hX hw hin hFd XC KC hEW hL hwz
 go_enter Tryz.func34,Tryz.ntmps34
 go_wp2
 clear hW
 go_region_held3 (fun w'=>A6 W.heap.size W w'∧w'.cell? ⟨w.heap.size,1,A4⟩=A2 (.int .i64 f)∧w'.cell? ⟨w.heap.size,2,A4⟩=A2 (.slice sa ws.length sc)∧w'.cell? ⟨P,0,A4⟩=A2 (.slice xa T.length xc))
  (first | exact⟨(Ab _ _).drew,d1,d2,p0⟩ | (go_split_ands;exact⟨A8 ‹_› hbx,by repeat' first | exact A0 hbx ‹_› | constructor⟩))
  (first
   |(go_split_ands;go_at_call 83;((with_reducible refine (HXC.out _ ‹_›).mono ?_);rintro e wx ⟨v,rfl,ho,hbx⟩;obtain⟨va,vc,rfl,hia,_⟩:=BW ho rfl;have HIA:=J hia;clear hia ho))
   |(go_split_ands;go_at_call 80;((with_reducible refine (HKC.out _ _ _ ‹_› HIA.out).mono ?_);rintro e wx ⟨v,rfl,ho,hbx⟩;have hwsz:=(by assumption:A6 W.heap.size W _).size;have HO:=J (G6 ho (AK hWs hwsz));clear ho)))
 go_split_ands
 go_wp2
 go_ret
 have hb9:A6 W.heap.size W wx:=by assumption
 have hfl:=Bo (fun n=>decide (n∈l.map (·.id))) L
 exact⟨_,_,rfl,HO.out,HFD.out,by omega,A8 hB hb9⟩
theorem sr_evyears_c (P MI MF nI:Nat) (T:List Cx) (xa:Option Ao) (xc:Nat) (l:List BF) (la:Option Ao) (lc:Nat) (ya yb:Int) (sa:Option Ao) (sc:Nat) (ka:Option Ao) (kc:Nat) (w:A9) (hE:Sr.Ev w P MI MF nI T xa xc l la lc) (hR:∀ r∈l,FH r) (hl:l.length≤1000000) :
  Ac A3 35 #[.pointer (A2 ⟨P,0,A4⟩),.agg #[.int .i64 4,.int .i64 0,.slice sa 0 sc,.int .i64 ya,.int .i64 yb,.slice ka 0 kc]] w fun e w'=>∃ v out,e=.returned v∧BO w' w.heap.size v out∧GY l (fun r=>DD (BQ (T.map (·.1)) r) (.mk 4 0 [] ya yb [])) out∧out.length≤1000000000000∧A6 w.heap.size w w':=by
 have hml:Au=9223372036854775807:=rfl
 obtain⟨i0,hi0,hz0,hz1,hz2⟩:=BR info_int
 have HI0:=J hi0
 clear hi0
 obtain⟨W,hW⟩:∃ W,w.alloc (.cells #[.int .i64 4,.int .i64 0,.slice sa 0 sc,.int .i64 ya,.int .i64 yb,.slice ka 0 kc] 29)=W:=⟨_,rfl⟩
 have hB:A6 w.heap.size w W:=by rw[← hW];exact Aa _ _
 have d0:W.cell? ⟨w.heap.size,0,A4⟩=A2 (.int .i64 4):=by rw[← hW];simp
 have d1:W.cell? ⟨w.heap.size,1,A4⟩=A2 (.int .i64 0):=by rw[← hW];simp
 have d2:W.cell? ⟨w.heap.size,2,A4⟩=A2 (.slice sa 0 sc):=by rw[← hW];simp
 have d3:W.cell? ⟨w.heap.size,3,A4⟩=A2 (.int .i64 ya):=by rw[← hW];simp
 have d4:W.cell? ⟨w.heap.size,4,A4⟩=A2 (.int .i64 yb):=by rw[← hW];simp
 have d5:W.cell? ⟨w.heap.size,5,A4⟩=A2 (.slice ka 0 kc):=by rw[← hW];simp
 have hEW:=hE.below hB
 have c1:=hEW.c1
 have HL:=J hEW.rl
 have HR:=J hR
 have hcap:=hEW.rl.cap
 have hmax:=hEW.rl.max
 have HF:Hid (∀ L,L=(l.filter fun r=>Ic (DU r.fields) ya yb).map (·.id)→GY l (fun r=>DD (BQ (T.map (·.1)) r) (.mk 4 0 [] ya yb [])) L):=J (fun L hL=>by rw[hL];exact Sr.Fd.of_filter l _)
 have hWs:=hB.size
 clear hE hEW hR
 go_enter Tryz.func35,Tryz.ntmps35
 go_wp2
 clear hW
 go_loopw [5,13] (fun v i wr=>∃ (k:Nat) (L:List Int),k≤l.length∧i=.int .i64 k∧Hid (L=((l.take k).filter fun r=>Ic (DU r.fields) ya yb).map (·.id))∧L.length≤k∧Hid (BO wr W.heap.size v L)∧A6 W.heap.size W wr) (fun _ i _=>l.length - (Ad i).toNat)
 case atStart=>exact⟨0,[],Ae _,rfl,J (by simp),An _,J (AH _ _ _ _),Ab _ _⟩
 case round =>
  obtain⟨k,L,hk,rfl,hT,hTk,hown,hb⟩:=hrel
  have hbs:=hb.size
  by_cases hlt:k<l.length
  ·obtain⟨x,hx⟩:∃ x,l[k]?=A2 x:=⟨_,A7 hlt⟩
   obtain⟨b,o,fa,fc,rfl,hbl,x0,x1,x2,x3,x4,hfx⟩:=HL.out.get hx
   replace x0:=A0 hb x0
   replace x1:=A0 hb x1
   replace x2:=A0 hb x2
   replace x3:=A0 hb x3
   replace x4:=A0 hb x4
   have hxm:=Ag hx
   obtain⟨U,hU⟩:∃ U,wr.alloc (.cells #[.int .i64 x.id,.int .i64 x.ver,.int .i64 x.kind,.string x.lang,.slice fa x.fields.length fc] 51)=U:=⟨_,rfl⟩
   have hbU:A6 W.heap.size W U:=by rw[← hU];exact hb.alloc hbs _
   have hbUs:=hbU.size
   have y0:U.cell? ⟨wr.heap.size,0,A4⟩=A2 (.int .i64 x.id):=by rw[← hU];simp
   have y1:U.cell? ⟨wr.heap.size,1,A4⟩=A2 (.int .i64 x.ver):=by rw[← hU];simp
   have y2:U.cell? ⟨wr.heap.size,2,A4⟩=A2 (.int .i64 x.kind):=by rw[← hU];simp
   have y3:U.cell? ⟨wr.heap.size,3,A4⟩=A2 (.string x.lang):=by rw[← hU];simp
   have y4:U.cell? ⟨wr.heap.size,4,A4⟩=A2 (.slice fa x.fields.length fc):=by rw[← hU];simp
   have d0':=A0 hbU d0
   have d1':=A0 hbU d1
   have d2':=A0 hbU d2
   have d3':=A0 hbU d3
   have d4':=A0 hbU d4
   have d5':=A0 hbU d5
   have hoU:=hown.out.alloc (.cells #[.int .i64 x.id,.int .i64 x.ver,.int .i64 x.kind,.string x.lang,.slice fa x.fields.length fc] 51)
   rw[hU]at hoU
   have CC:=search_years_c x.fields fa fc x.id x.ver x.kind x.lang 4 0 ya yb (.slice sa 0 sc) (.slice ka 0 kc) U (hfx.below hbU) (HR.out x hxm).gd
   have HOU:=J hoU
   have hst:(l.take (k+1)).filter (fun r=>Ic (DU r.fields) ya yb)=(l.take k).filter (fun r=>Ic (DU r.fields) ya yb)++(if Ic (DU x.fields) ya yb=true then [x] else []):=by
    rw[C8,hx,List.filter_append]
    by_cases hq:Ic (DU x.fields) ya yb=true <;> simp[hq]
   obtain⟨t,ht⟩:∃ t,Ic (DU x.fields) ya yb=t:=⟨_,rfl⟩
   rw[ht]at CC hst
   have HC:=J CC
   clear CC hoU hx hfx hown hxm ht d0' d1' d2' d3' d4' d5'
   have d0':=A0 hbU d0
   have d1':=A0 hbU d1
   have d2':=A0 hbU d2
   have d3':=A0 hbU d3
   have d4':=A0 hbU d4
   have d5':=A0 hbU d5
   cases t with
   | true =>
    rw[if_pos rfl]at hst
    have HT:Hid (L++[x.id]=((l.take (k+1)).filter fun r=>Ic (DU r.fields) ya yb).map (·.id)):=J (by rw[hst,hT.out,AS];rfl)
    clear hst hT
    go_wp2_with (first
     |(go_at_call 67;((with_reducible refine HC.out.mono ?_);rintro e w7 ⟨rfl,hb7⟩;have hb7':=hbU.trans (hb7.mono hbUs);have hb7s:=hb7'.size;have HO7:=J (own_below HOU.out hb7);have z0:=A0 hb7 y0))
     |(at_builtin;go_must ((refine wpList_append_sl rfl _ _ 35 rfl W.heap.size 3 i0 _ 1 8 Bl HI0.out hz0 hz1 hz2 rfl (by decide) _ L.length _ rfl (HO7.out.alloc _) (A2 ⟨_,0,A4⟩) 1 1 [Value.int .i64 x.id] rfl rfl (fun h9=>by cases h9) (fun ad had=>by cases had;exact Br.cells_new_at _ _ (by first | rfl | simp) _ _) (by simp[Value.oneCell']) (by unfold Au;omega) (by omega) (by simp;omega) ?_);intro v' w8 hown8 hg8 hnil8)))
    go_roundw
    case rel=>exact⟨k+1,L++[x.id],hlt,by go_num,HT,by simp;omega,J (by unfold BO;rw[Af,AS];exact hown8),(hb7'.alloc hb7s _).grown hg8 (by simp;omega) (fun i hi=>(HO7.out.lt i hi).1)⟩
    case measure=>simp[Ad];omega
   | false =>
    rw[if_neg (by decide),List.append_nil]at hst
    have HT:Hid (L=((l.take (k+1)).filter fun r=>Ic (DU r.fields) ya yb).map (·.id)):=J (by rw[hst,hT.out])
    clear hst hT
    go_wp2_with (go_at_call 67;((with_reducible refine HC.out.mono ?_);rintro e w7 ⟨rfl,hb7⟩;have hb7':=hbU.trans (hb7.mono hbUs);have HO7:=J (own_below HOU.out hb7)))
    go_roundw
    case rel=>exact⟨k+1,L,hlt,by go_num,HT,by omega,HO7,hb7'⟩
    case measure=>simp[Ad];omega
  ·obtain rfl:k=l.length:=by omega
   have hfin:=HF.out L (by rw[hT.out,Ap])
   have HFN:=J hfin
   clear hfin
   go_wp2
   go_ret
   exact⟨_,_,rfl,G6 hown.out (by omega),HFN.out,by omega,A8 hB hb⟩
namespace Sr
open Rc hiding bys
open Qr
theorem FA_kept {α:Type}{enc:α→List Ah}{size:Nat}{w w':A9}{a:Option Ao}{c:Nat}{xs:List α}{row:Option Nat} (h:Br.FA enc size w a c xs) (hg:w.grownBy w' row) (hne:∀ ad,a=A2 ad→A2 ad.block≠row):Br.FA enc size w' a c xs:=by
 obtain⟨b,o,h1,h2⟩:=h.at_
 refine⟨h.cap,h.max,b,o,fun hn=>⟨(h1 hn).1,Nat.lt_of_lt_of_le (h1 hn).2 hg.size⟩,fun j i x u hx hu=>?_⟩
 have hn:xs≠[]:=fun e=>by rw[e]at hx;simp at hx
 exact (Dh (hg.block b (h1 hn).2 (hne _ (h1 hn).1))).trans (h2 j i x u hx hu)
structure CapF (w:A9) (f:Nat) (fa:Option Ao) (fc:Nat) (F:List Int):Prop where
 k0:w.cell? ⟨f,0,A4⟩=A2 (.slice fa F.length fc)
 ia:DA w fa fc F
theorem CapF.grown {w w':A9}{f:Nat}{fa:Option Ao}{fc:Nat}{F:List Int}{row:Option Nat} (h:CapF w f fa fc F) (hg:w.grownBy w' row) (h1:A2 f≠row) (h2:∀ ad,fa=A2 ad→A2 ad.block≠row):CapF w' f fa fc F :=
 ⟨(Dh (hg.block f (Mi h.k0) h1)).trans h.k0,FA_kept h.ia hg h2⟩
end Sr
theorem sr_kids1_enters:∀ args w,(E5 84 args).run A3 w=.ok (.enter 84 args) w:=G2 Tryz.func84 (by kernel_rfl) rfl
theorem sr_kids2_enters:∀ args w,(E5 86 args).run A3 w=.ok (.enter 86 args) w:=G2 Tryz.func86 (by kernel_rfl) rfl
theorem sr_kids1_c (f:Nat) (fa:Option Ao) (fc:Nat) (F:List Int) (x:Int) (w:A9) (h:Sr.CapF w f fa fc F) :
  Ac A3 84 #[.int .i64 x,.pointer (A2 ⟨f,0,A4⟩)] w fun e w'=>e=.returned (.bool (decide (x∈F)))∧w=w':=by
 obtain⟨k0,ia⟩:=h
 have HC:=J ((containsI_c F x fa fc w ia).mono fun e w' h9=>(show e=.returned (.bool (decide (x∈F)))∧w=w' from ⟨h9.1,h9.2.symm⟩))
 clear ia
 go_enter Tryz.func84,Tryz.ntmps84
 go_wp2_with (go_at_call 40;((with_reducible refine HC.out.mono ?_);rintro e w1 ⟨rfl,rfl⟩))
 go_ret
 exact⟨rfl,rfl⟩
theorem sr_kids2_c (g f:Nat) (fa:Option Ao) (fc:Nat) (F:List Int) (x:Int) (w:A9) (h:Sr.CapF w f fa fc F) (k1:w.cell? ⟨g,0,A4⟩=A2 (.func (.func 84) #[] #[.pointer (A2 ⟨f,0,A4⟩)])) :
  Ac A3 86 #[.int .i64 x,.pointer (A2 ⟨g,0,A4⟩)] w fun e w'=>e=.returned (.bool (!decide (x∈F)))∧w=w':=by
 have HC:=J (sr_kids1_c f fa fc F x w h)
 clear h
 go_enter Tryz.func86,Tryz.ntmps86
 go_wp2_with (go_at_call 84;((with_reducible refine HC.out.mono ?_);rintro e w1 ⟨rfl,rfl⟩))
 go_ret
 exact⟨rfl,rfl⟩
namespace Sr
open Rc hiding bys
open Qr
def EvalC (P MI MF nI:Nat) (T:List Cx) (xa:Option Ao) (xc:Nat) (l:List Rd) (la:Option Ao) (lc B:Nat) (q:Qy):Prop :=
 ∀ (cs:List Ah) (w:A9),QC B w q cs→Ev w P MI MF nI T xa xc l la lc →
  Ac A3 37 #[.pointer (A2 ⟨P,0,A4⟩),.agg cs.toArray] w fun e w'=>∃ v,e=.returned v∧BO w' w.heap.size v (evalQ (T.map (·.1)) l q)∧A6 w.heap.size w w'
def evT (o:Int) (lf:Qy→Bool) (ks:List Qy):Bool:=if o=5 then evAll lf ks else if o=6 then evAny lf ks else evNot lf ks
theorem evT_one (o:Int) (ho:o=5∨o=6∨o=7) (lf:Qy→Bool) (x:Qy):evT o lf [x]=ev lf x:=by
 rcases ho with rfl | rfl | rfl
 ·show (ev lf x&&true)=_;rw[Bool.and_true]
 ·show (ev lf x||false)=_;rw[Bool.or_false]
 ·show (ev lf x&&!false)=_;rw[Bool.not_false,Bool.and_true]
theorem evT_5 (lf:Qy→Bool) (ks:List Qy) (x:Qy):evT 5 lf (ks++[x])=(evT 5 lf ks&&ev lf x):=by
 show evAll lf _=(evAll lf ks&&_)
 rw[evAll_eq,evAll_eq,List.all_append];simp
theorem evT_6 (lf:Qy→Bool) (ks:List Qy) (x:Qy):evT 6 lf (ks++[x])=(evT 6 lf ks||ev lf x):=by
 show evAny lf _=(evAny lf ks||_)
 rw[evAny_eq,evAny_eq,NK];simp
theorem evT_7 (lf:Qy→Bool) (ks:List Qy) (x:Qy) (h:ks≠[]):evT 7 lf (ks++[x])=(evT 7 lf ks&&!ev lf x):=by
 cases ks with
 | nil=>exact absurd rfl h
 | cons y r =>
  show (ev lf y&&!evAny lf (r++[x]))=((ev lf y&&!evAny lf r)&&!ev lf x)
  rw[evAny_eq,evAny_eq,NK,List.any_cons,List.any_nil,Bool.or_false,Bool.not_or,Bool.and_assoc]
theorem ev_T (o:Int) (ho:o=5∨o=6∨o=7) (lf:Qy→Bool) (ks:List Qy):ev lf (.mk o 0 [] 0 0 ks)=evT o lf ks:=by
 rcases ho with rfl | rfl | rfl <;> rfl
theorem fd_in64 {l:List Rd} (hR:∀ r∈l,Rg r) {p:Rd→Bool}{out:List Int} (h:Fd l p out):∀ n∈out,In64 n:=fun n hn=>by
 obtain⟨r,hr,_,rfl⟩:=(h n).1 hn
 have:=(hR r hr).ids
 unfold In64
 omega
end Sr
theorem sr_kids_5 (P MI MF nI:Nat) (T:List Cx) (xa:Option Ao) (xc:Nat) (l:List BF) (la:Option Ao) (lc:Nat) (B:Nat) (ks:List BK) (sa:Option Ao) (sc:Nat) (ka:Option Ao) (kc:Nat) (w:A9) (hE:Sr.Ev w P MI MF nI T xa xc l la lc) (hR:∀ r∈l,FH r) (hD:IS l) (hl:l.length≤1000000) (hK:Qr.KA B w ka kc ks) (hkn:1≤ks.length∧ks.length≤8) (IH:∀ k∈ks,Sr.EvalC P MI MF nI T xa xc l la lc B k) :
  Ac A3 36 #[.pointer (A2 ⟨P,0,A4⟩),.agg #[.int .i64 5,.int .i64 0,.slice sa 0 sc,.int .i64 0,.int .i64 0,.slice ka ks.length kc]] w fun e w'=>∃ v out,e=.returned v∧BO w' w.heap.size v out∧GY l (fun r=>DD (BQ (T.map (·.1)) r) (.mk 5 0 [] 0 0 ks)) out∧out.length≤1000000000000∧A6 w.heap.size w w':=by
 have hml:Au=9223372036854775807:=rfl
 have hmf:∀ (fn:Fn) (first cap:Array Ah) (w:A9),(Cl fn first cap).run A3 w=.ok (.func fn first cap) w:=fun _ _ _ _=>rfl
 obtain⟨i0,hi0,hz0,hz1,hz2⟩:=BR info_int
 have HI0:=J hi0
 clear hi0
 obtain⟨W,hW⟩:∃ W,w.alloc (.cells #[.int .i64 5,.int .i64 0,.slice sa 0 sc,.int .i64 0,.int .i64 0,.slice ka ks.length kc] 29)=W:=⟨_,rfl⟩
 have hB:A6 w.heap.size w W:=by rw[← hW];exact Aa _ _
 have d0:W.cell? ⟨w.heap.size,0,A4⟩=A2 (.int .i64 5):=by rw[← hW];simp
 have d1:W.cell? ⟨w.heap.size,1,A4⟩=A2 (.int .i64 0):=by rw[← hW];simp
 have d2:W.cell? ⟨w.heap.size,2,A4⟩=A2 (.slice sa 0 sc):=by rw[← hW];simp
 have d3:W.cell? ⟨w.heap.size,3,A4⟩=A2 (.int .i64 0):=by rw[← hW];simp
 have d4:W.cell? ⟨w.heap.size,4,A4⟩=A2 (.int .i64 0):=by rw[← hW];simp
 have d5:W.cell? ⟨w.heap.size,5,A4⟩=A2 (.slice ka ks.length kc):=by rw[← hW];simp
 have hWs:=hB.size
 have HKA:=J (hK.below hB)
 have HEV:=J (hE.below hB)
 have HIH:=J IH
 have HDI:=J hD
 have HRG:=J hR
 have hmax:=hK.max
 clear hE hK IH hD hR
 go_enter Tryz.func36,Tryz.ntmps36
 go_wp2
 clear hW
 go_loopw [5,6,7,8,9,13] (fun s5 _ _ _ _ i wr=>∃ (k:Nat) (L:List Int) (ov:Ah),ov=s5∧k≤ks.length∧i=.int .i64 k∧Hid (k=0→L=[])∧Hid (1≤k→GY l (fun r=>Sr.evT 5 (BQ (T.map (·.1)) r) (ks.take k)) L)∧L.length≤1000000*k∧Hid (BO wr W.heap.size ov L)∧A6 W.heap.size W wr) (fun _ _ _ _ _ i _=>ks.length - (Ad i).toNat)
 case atStart=>exact⟨0,[],_,rfl,Ae _,rfl,J (fun _=>rfl),J (fun h=>absurd h (by decide)),Ae _,J (AH _ _ _ _),Ab _ _⟩
 case round =>
  obtain⟨k,L,ov,hov,hk,rfl,hL0,hL1,hLk,hown,hb⟩:=hrel
  subst hov
  have hbs:=hb.size
  by_cases hlt:k<ks.length
  ·obtain⟨x,hx⟩:∃ x,ks[k]?=A2 x:=⟨_,A7 hlt⟩
   obtain⟨kb,ko,xsa,xsc,xka,xkc,rfl,hkb,k0,k1,k2,k3,k4,k5,hq⟩:=(HKA.out.below hb).get hx
   have htk:=DV hx
   have hxm:=Ag hx
   obtain⟨U,hU⟩:∃ U,wr.alloc (.cells #[.int .i64 x.op,.int .i64 x.fld,.slice xsa x.ws.length xsc,.int .i64 x.a,.int .i64 x.b,.slice xka x.ks.length xkc] 29)=U:=⟨_,rfl⟩
   have hbU1:A6 wr.heap.size wr U:=by rw[← hU];exact Aa _ _
   have hbU:A6 W.heap.size W U:=A8 hb hbU1
   have hbUs:=hbU.size
   have hUs:U.heap.size=wr.heap.size+1:=by rw[← hU];simp
   have y0:U.cell? ⟨wr.heap.size,0,A4⟩=A2 (.int .i64 x.op):=by rw[← hU];simp
   have y1:U.cell? ⟨wr.heap.size,1,A4⟩=A2 (.int .i64 x.fld):=by rw[← hU];simp
   have y2:U.cell? ⟨wr.heap.size,2,A4⟩=A2 (.slice xsa x.ws.length xsc):=by rw[← hU];simp
   have y3:U.cell? ⟨wr.heap.size,3,A4⟩=A2 (.int .i64 x.a):=by rw[← hU];simp
   have y4:U.cell? ⟨wr.heap.size,4,A4⟩=A2 (.int .i64 x.b):=by rw[← hU];simp
   have y5:U.cell? ⟨wr.heap.size,5,A4⟩=A2 (.slice xka x.ks.length xkc):=by rw[← hU];simp
   have HOU:=J (own_below hown.out hbU1)
   have hqU:=hq.later hbU1
   have EC:=HIH.out x hxm _ U hqU (HEV.out.below hbU)
   obtain⟨FF,hFF⟩:∃ FF,J0 (T.map (·.1)) l x=FF:=⟨_,rfl⟩
   have hFd:=Sr.evalQ_fd (T.map (·.1)) l x
   have hFl:=Sr.evalQ_len (T.map (·.1)) l x
   rw[hFF]at EC hFd hFl
   have HEC:=J EC
   have HFD:=J hFd
   have HTK:=J htk
   have HLK:=J (fun g hg=>(hown.out.lt g hg))
   have d0':=A0 hbU d0
   clear EC hFd hFF htk hxm hq hqU hx hown
   have hFl2:FF.length≤1000000:=by omega
   rcases (by omega:k=0∨1≤k) with hk0 | hk1
   ·subst hk0
    simp only[Ew,Bs]at k0 k1 k2 k3 k4 k5
    go_wp2_with (go_at_call 37;((with_reducible refine HEC.out.mono ?_);rintro e w1 ⟨v1,rfl,ho1,hb1⟩;obtain⟨fa,fc,rfl,hia,hlow⟩:=BW ho1 rfl;have HO1:=J ho1;have hb1s:=hb1.size;clear ho1 hia hlow))
    go_roundw
    case rel=>exact⟨1,FF,_,rfl,hlt,by go_num,J (fun h=>absurd h (by decide)),J (fun _=>HFD.out.congr fun r _=>by rw[HTK.out,Bt,D0,Sr.evT_one 5 (by omega)]),by omega,J (G6 ((HO1.out.alloc _).alloc _) hbUs),((A8 hbU hb1).alloc (by omega) _).alloc (by simp;omega) _⟩
    case measure=>simp[Ad];omega
   ·have hk0:((k:Int) == 0)=false:=beq_eq_false_iff_ne.2 (by omega)
    have hPd:GY l (fun r=>Sr.evT 5 (BQ (T.map (·.1)) r) (ks.take k)) L:=hL1.out hk1
    have hin:=Sr.fd_in64 HRG.out hPd
    have HPD:=J hPd
    have HIN:=J hin
    clear hPd hin hL1 hL0
    go_wp2_with (first
     |(go_at_call 85;((with_reducible refine HDL.out.mono ?_);rintro e w5 ⟨v5,rfl,ho5,hv5,hg5⟩;have HO5:=J ho5;have HB5:=J (HB3.out.grown hg5 HB3.out.size (fun i hi=>(HVL.out i hi).1));clear ho5 hg5))
     |(go_at_call 37;((with_reducible refine HEC.out.mono ?_);rintro e w1 ⟨v1,rfl,ho1,hb1⟩;obtain⟨fa,fc,rfl,hia,hlow⟩:=BW ho1 rfl;have hb1s:=hb1.size;obtain⟨U3,hU3⟩:∃ U3,(w1.alloc (.cells #[.slice fa FF.length fc] 35)).alloc (.cells #[.func (.func 84) #[] #[.pointer (A2 ⟨w1.heap.size,0,A4⟩)]] 104)=U3:=⟨_,rfl⟩;have hb3:A6 w1.heap.size w1 U3:=(by rw[← hU3];exact (Aa _ _).alloc (by simp) _);have hb3s:=hb3.size;have hU3s:U3.heap.size=w1.heap.size+2:=(by rw[← hU3];simp);have f0:U3.cell? ⟨w1.heap.size,0,A4⟩=A2 (.slice fa FF.length fc):=(by rw[← hU3];simp);have f1:U3.cell? ⟨w1.heap.size+1,0,A4⟩=A2 (.func (.func 84) #[] #[.pointer (A2 ⟨w1.heap.size,0,A4⟩)]):=(by rw[← hU3];simp);have e0:=A0 hb3 (A0 hb1 d0');have HOV:=J (own_below (own_below HOU.out hb1) hb3);have HIA3:=J (hia.below hb3);have HLW:=J hlow;have HB3:=J (A8 (A8 hbU hb1) hb3);have HVL:Hid (∀ g,ov.ownBlock=A2 g→W.heap.size≤g∧g<wr.heap.size):=HLK;have HDL:Hid (Ac A3 85 #[ov,.func (.func 86) #[] #[.pointer (A2 ⟨w1.heap.size+1,0,A4⟩)]] U3 fun e w'=>∃ v',e=.returned v'∧BO w' W.heap.size v' (L.filter fun x=>!(fun x=>!decide (x∈FF)) x)∧v'.ownBlock=ov.ownBlock∧U3.grownBy w' ov.ownBlock):=J (have hne:∀ b,wr.heap.size≤b→A2 b≠ov.ownBlock:=(fun b hb9 e9=>by have:=(HVL.out b e9.symm).2;omega);have hneF:∀ ad,fa=A2 ad→A2 ad.block≠ov.ownBlock:=(fun ad had=>hne _ (by have:=HLW.out ad had;omega));have hC3:Sr.CapF U3 w1.heap.size fa fc FF:=⟨f0,HIA3.out⟩;delI_c 86 #[.pointer (A2 ⟨w1.heap.size+1,0,A4⟩)] sr_kids2_enters (fun x=>!decide (x∈FF)) L ov W.heap.size U3 HOV.out HIN.out (by omega) (fun x _ W' hg=>(sr_kids2_c (w1.heap.size+1) w1.heap.size fa fc FF x W' (hC3.grown hg (hne _ (by omega)) hneF) ((Dh (hg.block _ (by show w1.heap.size+1<U3.heap.size;omega) (hne _ (by show wr.heap.size≤w1.heap.size+1;omega)))).trans f1)).mono (fun e w' h9=>⟨h9.1,0,h9.2.symm⟩)));clear ho1 hia hlow)))
    go_roundw
    case rel=>exact⟨k+1,(L.filter fun x=>!(fun x=>!decide (x∈FF)) x),_,rfl,hlt,by go_num,J (fun h=>absurd h (by omega)),J (fun _=>by
     show GY l _ (L.filter _)
     have e9:(L.filter fun x=>!(!decide (x∈FF)))=L.filter fun n=>decide (n∈FF):=by congr 1;funext x;rw[Bool.not_not]
     show GY l _ (L.filter fun x=>!(!decide (x∈FF)))
     rw[e9]
     exact (Sr.Fd.and HDI.out HPD.out HFD.out).congr fun r _=>by rw[HTK.out,Sr.evT_5]),by have:=Bo (fun x=>!(fun x=>!decide (x∈FF)) x) L;omega,HO5,HB5.out⟩
    case measure=>simp[Ad];omega
  ·obtain rfl:k=ks.length:=by omega
   have hfin:GY l (fun r=>DD (BQ (T.map (·.1)) r) (.mk 5 0 [] 0 0 ks)) L:=(hL1.out hkn.1).congr fun r _=>by rw[Ap,Sr.ev_T 5 (by omega)]
   have HFN:=J hfin
   clear hfin
   go_wp2
   go_ret
   exact⟨_,_,rfl,G6 hown.out (by omega),HFN.out,by omega,A8 hB hb⟩
theorem sr_kids_6 (P MI MF nI:Nat) (T:List Cx) (xa:Option Ao) (xc:Nat) (l:List BF) (la:Option Ao) (lc:Nat) (B:Nat) (ks:List BK) (sa:Option Ao) (sc:Nat) (ka:Option Ao) (kc:Nat) (w:A9) (hE:Sr.Ev w P MI MF nI T xa xc l la lc) (hR:∀ r∈l,FH r) (hD:IS l) (hl:l.length≤1000000) (hK:Qr.KA B w ka kc ks) (hkn:1≤ks.length∧ks.length≤8) (IH:∀ k∈ks,Sr.EvalC P MI MF nI T xa xc l la lc B k) :
  Ac A3 36 #[.pointer (A2 ⟨P,0,A4⟩),.agg #[.int .i64 6,.int .i64 0,.slice sa 0 sc,.int .i64 0,.int .i64 0,.slice ka ks.length kc]] w fun e w'=>∃ v out,e=.returned v∧BO w' w.heap.size v out∧GY l (fun r=>DD (BQ (T.map (·.1)) r) (.mk 6 0 [] 0 0 ks)) out∧out.length≤1000000000000∧A6 w.heap.size w w':=by
 have hml:Au=9223372036854775807:=rfl
 have hmf:∀ (fn:Fn) (first cap:Array Ah) (w:A9),(Cl fn first cap).run A3 w=.ok (.func fn first cap) w:=fun _ _ _ _=>rfl
 obtain⟨i0,hi0,hz0,hz1,hz2⟩:=BR info_int
 have HI0:=J hi0
 clear hi0
 obtain⟨W,hW⟩:∃ W,w.alloc (.cells #[.int .i64 6,.int .i64 0,.slice sa 0 sc,.int .i64 0,.int .i64 0,.slice ka ks.length kc] 29)=W:=⟨_,rfl⟩
 have hB:A6 w.heap.size w W:=by rw[← hW];exact Aa _ _
 have d0:W.cell? ⟨w.heap.size,0,A4⟩=A2 (.int .i64 6):=by rw[← hW];simp
 have d1:W.cell? ⟨w.heap.size,1,A4⟩=A2 (.int .i64 0):=by rw[← hW];simp
 have d2:W.cell? ⟨w.heap.size,2,A4⟩=A2 (.slice sa 0 sc):=by rw[← hW];simp
 have d3:W.cell? ⟨w.heap.size,3,A4⟩=A2 (.int .i64 0):=by rw[← hW];simp
 have d4:W.cell? ⟨w.heap.size,4,A4⟩=A2 (.int .i64 0):=by rw[← hW];simp
 have d5:W.cell? ⟨w.heap.size,5,A4⟩=A2 (.slice ka ks.length kc):=by rw[← hW];simp
 have hWs:=hB.size
 have HKA:=J (hK.below hB)
 have HEV:=J (hE.below hB)
 have HIH:=J IH
 have HDI:=J hD
 have HRG:=J hR
 have hmax:=hK.max
 clear hE hK IH hD hR
 go_enter Tryz.func36,Tryz.ntmps36
 go_wp2
 clear hW
 go_loopw [5,6,7,8,9,13] (fun s5 _ _ _ _ i wr=>∃ (k:Nat) (L:List Int) (ov:Ah),ov=s5∧k≤ks.length∧i=.int .i64 k∧Hid (k=0→L=[])∧Hid (1≤k→GY l (fun r=>Sr.evT 6 (BQ (T.map (·.1)) r) (ks.take k)) L)∧L.length≤1000000*k∧Hid (BO wr W.heap.size ov L)∧A6 W.heap.size W wr) (fun _ _ _ _ _ i _=>ks.length - (Ad i).toNat)
 case atStart=>exact⟨0,[],_,rfl,Ae _,rfl,J (fun _=>rfl),J (fun h=>absurd h (by decide)),Ae _,J (AH _ _ _ _),Ab _ _⟩
 case round =>
  obtain⟨k,L,ov,hov,hk,rfl,hL0,hL1,hLk,hown,hb⟩:=hrel
  subst hov
  have hbs:=hb.size
  by_cases hlt:k<ks.length
  ·obtain⟨x,hx⟩:∃ x,ks[k]?=A2 x:=⟨_,A7 hlt⟩
   obtain⟨kb,ko,xsa,xsc,xka,xkc,rfl,hkb,k0,k1,k2,k3,k4,k5,hq⟩:=(HKA.out.below hb).get hx
   have htk:=DV hx
   have hxm:=Ag hx
   obtain⟨U,hU⟩:∃ U,wr.alloc (.cells #[.int .i64 x.op,.int .i64 x.fld,.slice xsa x.ws.length xsc,.int .i64 x.a,.int .i64 x.b,.slice xka x.ks.length xkc] 29)=U:=⟨_,rfl⟩
   have hbU1:A6 wr.heap.size wr U:=by rw[← hU];exact Aa _ _
   have hbU:A6 W.heap.size W U:=A8 hb hbU1
   have hbUs:=hbU.size
   have hUs:U.heap.size=wr.heap.size+1:=by rw[← hU];simp
   have y0:U.cell? ⟨wr.heap.size,0,A4⟩=A2 (.int .i64 x.op):=by rw[← hU];simp
   have y1:U.cell? ⟨wr.heap.size,1,A4⟩=A2 (.int .i64 x.fld):=by rw[← hU];simp
   have y2:U.cell? ⟨wr.heap.size,2,A4⟩=A2 (.slice xsa x.ws.length xsc):=by rw[← hU];simp
   have y3:U.cell? ⟨wr.heap.size,3,A4⟩=A2 (.int .i64 x.a):=by rw[← hU];simp
   have y4:U.cell? ⟨wr.heap.size,4,A4⟩=A2 (.int .i64 x.b):=by rw[← hU];simp
   have y5:U.cell? ⟨wr.heap.size,5,A4⟩=A2 (.slice xka x.ks.length xkc):=by rw[← hU];simp
   have HOU:=J (own_below hown.out hbU1)
   have hqU:=hq.later hbU1
   have EC:=HIH.out x hxm _ U hqU (HEV.out.below hbU)
   obtain⟨FF,hFF⟩:∃ FF,J0 (T.map (·.1)) l x=FF:=⟨_,rfl⟩
   have hFd:=Sr.evalQ_fd (T.map (·.1)) l x
   have hFl:=Sr.evalQ_len (T.map (·.1)) l x
   rw[hFF]at EC hFd hFl
   have HEC:=J EC
   have HFD:=J hFd
   have HTK:=J htk
   have HLK:=J (fun g hg=>(hown.out.lt g hg))
   have d0':=A0 hbU d0
   clear EC hFd hFF htk hxm hq hqU hx hown
   have hFl2:FF.length≤1000000:=by omega
   rcases (by omega:k=0∨1≤k) with hk0 | hk1
   ·subst hk0
    simp only[Ew,Bs]at k0 k1 k2 k3 k4 k5
    go_wp2_with (go_at_call 37;((with_reducible refine HEC.out.mono ?_);rintro e w1 ⟨v1,rfl,ho1,hb1⟩;obtain⟨fa,fc,rfl,hia,hlow⟩:=BW ho1 rfl;have HO1:=J ho1;have hb1s:=hb1.size;clear ho1 hia hlow))
    go_roundw
    case rel=>exact⟨1,FF,_,rfl,hlt,by go_num,J (fun h=>absurd h (by decide)),J (fun _=>HFD.out.congr fun r _=>by rw[HTK.out,Bt,D0,Sr.evT_one 6 (by omega)]),by omega,J (G6 ((HO1.out.alloc _).alloc _) hbUs),((A8 hbU hb1).alloc (by omega) _).alloc (by simp;omega) _⟩
    case measure=>simp[Ad];omega
   ·have hk0:((k:Int) == 0)=false:=beq_eq_false_iff_ne.2 (by omega)
    have hPd:GY l (fun r=>Sr.evT 6 (BQ (T.map (·.1)) r) (ks.take k)) L:=hL1.out hk1
    have hin:=Sr.fd_in64 HRG.out hPd
    have HPD:=J hPd
    have HIN:=J hin
    clear hPd hin hL1 hL0
    go_wp2_with (first
     |(at_builtin;go_must ((refine wpList_append_sl rfl _ _ 35 rfl W.heap.size 3 i0 _ 1 8 Bl HI0.out hz0 hz1 hz2 rfl (by decide) _ L.length _ rfl HOV.out fa FF.length fc (FF.flatMap fun x:Int=>[Value.int .i64 x]) rfl (Br.flat_len (fun x:Int=>[Value.int .i64 x]) 1 (fun _=>rfl) FF) HIA3.out.none (Br.FA.cells (enc:=fun x:Int=>[Value.int .i64 x]) (size:=1) (fun _=>rfl) (by decide) HIA3.out) (Br.flat_one (fun _ u hu=>by rw[Bf]at hu;rw[hu];rfl) FF) (by unfold Au;omega) (by omega) HB3.out.size ?_);intro v8 w8 hown8 hg8 hnil8))
     |(go_at_call 37;((with_reducible refine HEC.out.mono ?_);rintro e w1 ⟨v1,rfl,ho1,hb1⟩;obtain⟨fa,fc,rfl,hia,hlow⟩:=BW ho1 rfl;have hb1s:=hb1.size;obtain⟨U3,hU3⟩:∃ U3,(w1.alloc (.cells #[.slice fa FF.length fc] 35)).alloc (.cells #[.func (.func 84) #[] #[.pointer (A2 ⟨w1.heap.size,0,A4⟩)]] 104)=U3:=⟨_,rfl⟩;have hb3:A6 w1.heap.size w1 U3:=(by rw[← hU3];exact (Aa _ _).alloc (by simp) _);have hb3s:=hb3.size;have hU3s:U3.heap.size=w1.heap.size+2:=(by rw[← hU3];simp);have f0:U3.cell? ⟨w1.heap.size,0,A4⟩=A2 (.slice fa FF.length fc):=(by rw[← hU3];simp);have f1:U3.cell? ⟨w1.heap.size+1,0,A4⟩=A2 (.func (.func 84) #[] #[.pointer (A2 ⟨w1.heap.size,0,A4⟩)]):=(by rw[← hU3];simp);have e0:=A0 hb3 (A0 hb1 d0');have HOV:=J (own_below (own_below HOU.out hb1) hb3);have HIA3:=J (hia.below hb3);have HLW:=J hlow;have HB3:=J (A8 (A8 hbU hb1) hb3);have HVL:Hid (∀ g,ov.ownBlock=A2 g→W.heap.size≤g∧g<wr.heap.size):=HLK;clear ho1 hia hlow)))
    go_roundw
    case rel=>exact⟨k+1,L++FF,_,rfl,hlt,by go_num,J (fun h=>absurd h (by omega)),J (fun _=>(HPD.out.or HFD.out).congr fun r _=>by rw[HTK.out,Sr.evT_6]),by rw[Af];omega,J (by unfold BO;rw[Af,AS,← Ix.flat_int FF];exact hown8),HB3.out.grown hg8 HB3.out.size (fun i hi=>(HVL.out i hi).1)⟩
    case measure=>simp[Ad];omega
  ·obtain rfl:k=ks.length:=by omega
   have hfin:GY l (fun r=>DD (BQ (T.map (·.1)) r) (.mk 6 0 [] 0 0 ks)) L:=(hL1.out hkn.1).congr fun r _=>by rw[Ap,Sr.ev_T 6 (by omega)]
   have HFN:=J hfin
   clear hfin
   go_wp2
   go_ret
   exact⟨_,_,rfl,G6 hown.out (by omega),HFN.out,by omega,A8 hB hb⟩
theorem sr_kids_7 (P MI MF nI:Nat) (T:List Cx) (xa:Option Ao) (xc:Nat) (l:List BF) (la:Option Ao) (lc:Nat) (B:Nat) (ks:List BK) (sa:Option Ao) (sc:Nat) (ka:Option Ao) (kc:Nat) (w:A9) (hE:Sr.Ev w P MI MF nI T xa xc l la lc) (hR:∀ r∈l,FH r) (hD:IS l) (hl:l.length≤1000000) (hK:Qr.KA B w ka kc ks) (hkn:1≤ks.length∧ks.length≤8) (IH:∀ k∈ks,Sr.EvalC P MI MF nI T xa xc l la lc B k) :
  Ac A3 36 #[.pointer (A2 ⟨P,0,A4⟩),.agg #[.int .i64 7,.int .i64 0,.slice sa 0 sc,.int .i64 0,.int .i64 0,.slice ka ks.length kc]] w fun e w'=>∃ v out,e=.returned v∧BO w' w.heap.size v out∧GY l (fun r=>DD (BQ (T.map (·.1)) r) (.mk 7 0 [] 0 0 ks)) out∧out.length≤1000000000000∧A6 w.heap.size w w':=by
 have hml:Au=9223372036854775807:=rfl
 have hmf:∀ (fn:Fn) (first cap:Array Ah) (w:A9),(Cl fn first cap).run A3 w=.ok (.func fn first cap) w:=fun _ _ _ _=>rfl
 obtain⟨i0,hi0,hz0,hz1,hz2⟩:=BR info_int
 have HI0:=J hi0
 clear hi0
 obtain⟨W,hW⟩:∃ W,w.alloc (.cells #[.int .i64 7,.int .i64 0,.slice sa 0 sc,.int .i64 0,.int .i64 0,.slice ka ks.length kc] 29)=W:=⟨_,rfl⟩
 have hB:A6 w.heap.size w W:=by rw[← hW];exact Aa _ _
 have d0:W.cell? ⟨w.heap.size,0,A4⟩=A2 (.int .i64 7):=by rw[← hW];simp
 have d1:W.cell? ⟨w.heap.size,1,A4⟩=A2 (.int .i64 0):=by rw[← hW];simp
 have d2:W.cell? ⟨w.heap.size,2,A4⟩=A2 (.slice sa 0 sc):=by rw[← hW];simp
 have d3:W.cell? ⟨w.heap.size,3,A4⟩=A2 (.int .i64 0):=by rw[← hW];simp
 have d4:W.cell? ⟨w.heap.size,4,A4⟩=A2 (.int .i64 0):=by rw[← hW];simp
 have d5:W.cell? ⟨w.heap.size,5,A4⟩=A2 (.slice ka ks.length kc):=by rw[← hW];simp
 have hWs:=hB.size
 have HKA:=J (hK.below hB)
 have HEV:=J (hE.below hB)
 have HIH:=J IH
 have HDI:=J hD
 have HRG:=J hR
 have hmax:=hK.max
 clear hE hK IH hD hR
 go_enter Tryz.func36,Tryz.ntmps36
 go_wp2
 clear hW
 go_loopw [5,6,7,8,9,13] (fun s5 _ _ _ _ i wr=>∃ (k:Nat) (L:List Int) (ov:Ah),ov=s5∧k≤ks.length∧i=.int .i64 k∧Hid (k=0→L=[])∧Hid (1≤k→GY l (fun r=>Sr.evT 7 (BQ (T.map (·.1)) r) (ks.take k)) L)∧L.length≤1000000*k∧Hid (BO wr W.heap.size ov L)∧A6 W.heap.size W wr) (fun _ _ _ _ _ i _=>ks.length - (Ad i).toNat)
 case atStart=>exact⟨0,[],_,rfl,Ae _,rfl,J (fun _=>rfl),J (fun h=>absurd h (by decide)),Ae _,J (AH _ _ _ _),Ab _ _⟩
 case round =>
  obtain⟨k,L,ov,hov,hk,rfl,hL0,hL1,hLk,hown,hb⟩:=hrel
  subst hov
  have hbs:=hb.size
  by_cases hlt:k<ks.length
  ·obtain⟨x,hx⟩:∃ x,ks[k]?=A2 x:=⟨_,A7 hlt⟩
   obtain⟨kb,ko,xsa,xsc,xka,xkc,rfl,hkb,k0,k1,k2,k3,k4,k5,hq⟩:=(HKA.out.below hb).get hx
   have htk:=DV hx
   have hxm:=Ag hx
   obtain⟨U,hU⟩:∃ U,wr.alloc (.cells #[.int .i64 x.op,.int .i64 x.fld,.slice xsa x.ws.length xsc,.int .i64 x.a,.int .i64 x.b,.slice xka x.ks.length xkc] 29)=U:=⟨_,rfl⟩
   have hbU1:A6 wr.heap.size wr U:=by rw[← hU];exact Aa _ _
   have hbU:A6 W.heap.size W U:=A8 hb hbU1
   have hbUs:=hbU.size
   have hUs:U.heap.size=wr.heap.size+1:=by rw[← hU];simp
   have y0:U.cell? ⟨wr.heap.size,0,A4⟩=A2 (.int .i64 x.op):=by rw[← hU];simp
   have y1:U.cell? ⟨wr.heap.size,1,A4⟩=A2 (.int .i64 x.fld):=by rw[← hU];simp
   have y2:U.cell? ⟨wr.heap.size,2,A4⟩=A2 (.slice xsa x.ws.length xsc):=by rw[← hU];simp
   have y3:U.cell? ⟨wr.heap.size,3,A4⟩=A2 (.int .i64 x.a):=by rw[← hU];simp
   have y4:U.cell? ⟨wr.heap.size,4,A4⟩=A2 (.int .i64 x.b):=by rw[← hU];simp
   have y5:U.cell? ⟨wr.heap.size,5,A4⟩=A2 (.slice xka x.ks.length xkc):=by rw[← hU];simp
   have HOU:=J (own_below hown.out hbU1)
   have hqU:=hq.later hbU1
   have EC:=HIH.out x hxm _ U hqU (HEV.out.below hbU)
   obtain⟨FF,hFF⟩:∃ FF,J0 (T.map (·.1)) l x=FF:=⟨_,rfl⟩
   have hFd:=Sr.evalQ_fd (T.map (·.1)) l x
   have hFl:=Sr.evalQ_len (T.map (·.1)) l x
   rw[hFF]at EC hFd hFl
   have HEC:=J EC
   have HFD:=J hFd
   have HTK:=J htk
   have HLK:=J (fun g hg=>(hown.out.lt g hg))
   have d0':=A0 hbU d0
   clear EC hFd hFF htk hxm hq hqU hx hown
   have hFl2:FF.length≤1000000:=by omega
   rcases (by omega:k=0∨1≤k) with hk0 | hk1
   ·subst hk0
    simp only[Ew,Bs]at k0 k1 k2 k3 k4 k5
    go_wp2_with (go_at_call 37;((with_reducible refine HEC.out.mono ?_);rintro e w1 ⟨v1,rfl,ho1,hb1⟩;obtain⟨fa,fc,rfl,hia,hlow⟩:=BW ho1 rfl;have HO1:=J ho1;have hb1s:=hb1.size;clear ho1 hia hlow))
    go_roundw
    case rel=>exact⟨1,FF,_,rfl,hlt,by go_num,J (fun h=>absurd h (by decide)),J (fun _=>HFD.out.congr fun r _=>by rw[HTK.out,Bt,D0,Sr.evT_one 7 (by omega)]),by omega,J (G6 ((HO1.out.alloc _).alloc _) hbUs),((A8 hbU hb1).alloc (by omega) _).alloc (by simp;omega) _⟩
    case measure=>simp[Ad];omega
   ·have hk0:((k:Int) == 0)=false:=beq_eq_false_iff_ne.2 (by omega)
    have hPd:GY l (fun r=>Sr.evT 7 (BQ (T.map (·.1)) r) (ks.take k)) L:=hL1.out hk1
    have hin:=Sr.fd_in64 HRG.out hPd
    have HPD:=J hPd
    have HIN:=J hin
    clear hPd hin hL1 hL0
    go_wp2_with (first
     |(go_at_call 85;((with_reducible refine HDL.out.mono ?_);rintro e w5 ⟨v5,rfl,ho5,hv5,hg5⟩;have HO5:=J ho5;have HB5:=J (HB3.out.grown hg5 HB3.out.size (fun i hi=>(HVL.out i hi).1));clear ho5 hg5))
     |(go_at_call 37;((with_reducible refine HEC.out.mono ?_);rintro e w1 ⟨v1,rfl,ho1,hb1⟩;obtain⟨fa,fc,rfl,hia,hlow⟩:=BW ho1 rfl;have hb1s:=hb1.size;obtain⟨U3,hU3⟩:∃ U3,(w1.alloc (.cells #[.slice fa FF.length fc] 35)).alloc (.cells #[.func (.func 84) #[] #[.pointer (A2 ⟨w1.heap.size,0,A4⟩)]] 104)=U3:=⟨_,rfl⟩;have hb3:A6 w1.heap.size w1 U3:=(by rw[← hU3];exact (Aa _ _).alloc (by simp) _);have hb3s:=hb3.size;have hU3s:U3.heap.size=w1.heap.size+2:=(by rw[← hU3];simp);have f0:U3.cell? ⟨w1.heap.size,0,A4⟩=A2 (.slice fa FF.length fc):=(by rw[← hU3];simp);have f1:U3.cell? ⟨w1.heap.size+1,0,A4⟩=A2 (.func (.func 84) #[] #[.pointer (A2 ⟨w1.heap.size,0,A4⟩)]):=(by rw[← hU3];simp);have e0:=A0 hb3 (A0 hb1 d0');have HOV:=J (own_below (own_below HOU.out hb1) hb3);have HIA3:=J (hia.below hb3);have HLW:=J hlow;have HB3:=J (A8 (A8 hbU hb1) hb3);have HVL:Hid (∀ g,ov.ownBlock=A2 g→W.heap.size≤g∧g<wr.heap.size):=HLK;have HDL:Hid (Ac A3 85 #[ov,.func (.func 84) #[] #[.pointer (A2 ⟨w1.heap.size,0,A4⟩)]] U3 fun e w'=>∃ v',e=.returned v'∧BO w' W.heap.size v' (L.filter fun x=>!(fun x=>decide (x∈FF)) x)∧v'.ownBlock=ov.ownBlock∧U3.grownBy w' ov.ownBlock):=J (have hne:∀ b,wr.heap.size≤b→A2 b≠ov.ownBlock:=(fun b hb9 e9=>by have:=(HVL.out b e9.symm).2;omega);have hneF:∀ ad,fa=A2 ad→A2 ad.block≠ov.ownBlock:=(fun ad had=>hne _ (by have:=HLW.out ad had;omega));have hC3:Sr.CapF U3 w1.heap.size fa fc FF:=⟨f0,HIA3.out⟩;delI_c 84 #[.pointer (A2 ⟨w1.heap.size,0,A4⟩)] sr_kids1_enters (fun x=>decide (x∈FF)) L ov W.heap.size U3 HOV.out HIN.out (by omega) (fun x _ W' hg=>(sr_kids1_c w1.heap.size fa fc FF x W' (hC3.grown hg (hne _ (by omega)) hneF)).mono (fun e w' h9=>⟨h9.1,0,h9.2.symm⟩)));clear ho1 hia hlow)))
    go_roundw
    case rel=>exact⟨k+1,(L.filter fun x=>!(fun x=>decide (x∈FF)) x),_,rfl,hlt,by go_num,J (fun h=>absurd h (by omega)),J (fun _=>by
     show GY l _ (L.filter _)
     skip
     show GY l _ (L.filter fun x=>!decide (x∈FF))
     skip
     exact (Sr.Fd.not HDI.out HPD.out HFD.out).congr fun r _=>by rw[HTK.out,Sr.evT_7 _ _ _ (fun e=>by have:=congrArg List.length e;rw[List.length_take,List.length_nil]at this;omega)]),by have:=Bo (fun x=>!(fun x=>decide (x∈FF)) x) L;omega,HO5,HB5.out⟩
    case measure=>simp[Ad];omega
  ·obtain rfl:k=ks.length:=by omega
   have hfin:GY l (fun r=>DD (BQ (T.map (·.1)) r) (.mk 7 0 [] 0 0 ks)) L:=(hL1.out hkn.1).congr fun r _=>by rw[Ap,Sr.ev_T 7 (by omega)]
   have HFN:=J hfin
   clear hfin
   go_wp2
   go_ret
   exact⟨_,_,rfl,G6 hown.out (by omega),HFN.out,by omega,A8 hB hb⟩
theorem Sr.fzero (w:A9):(M0 66).run A3 w=.ok .nilFunc w:=by kernel_rfl
theorem sr_eval_of (P MI MF nI:Nat) (T:List Cx) (xa:Option Ao) (xc:Nat) (l:List BF) (la:Option Ao) (lc:Nat) (B:Nat) (q:BK) (cs:List Ah) (w:A9) (hq:Qr.QC B w q cs) (hE:Sr.Ev w P MI MF nI T xa xc l la lc) (fn:Nat) (eg:∀ args w,(E5 fn args).run A3 w=.ok (.enter fn args) w) (hop:Sr.findF P (.int .i64 q.op)=A2 (.func (.func fn) #[.pointer (A2 ⟨P,0,A4⟩)] #[])) (hi:Ga q.op)
  (FC:∀ w',A6 w.heap.size w w'→Ac A3 fn #[.pointer (A2 ⟨P,0,A4⟩),.agg cs.toArray] w' fun e w''=>∃ v out,e=.returned v∧BO w'' w'.heap.size v out∧GY l (fun r=>DD (BQ (T.map (·.1)) r) q) out∧out.length≤1000000000000∧A6 w'.heap.size w' w'') :
  Ac A3 37 #[.pointer (A2 ⟨P,0,A4⟩),.agg cs.toArray] w fun e w'=>∃ v,e=.returned v∧BO w' w.heap.size v (J0 (T.map (·.1)) l q)∧A6 w.heap.size w w':=by
 obtain⟨sa,sc,ka,kc,rfl,_,_,_⟩:=hq.kids
 obtain⟨W,hW⟩:∃ W,w.alloc (.cells #[.int .i64 q.op,.int .i64 q.fld,.slice sa q.ws.length sc,.int .i64 q.a,.int .i64 q.b,.slice ka q.ks.length kc] 29)=W:=⟨_,rfl⟩
 have hB:A6 w.heap.size w W:=by rw[← hW];exact Aa _ _
 have d0:W.cell? ⟨w.heap.size,0,A4⟩=A2 (.int .i64 q.op):=by rw[← hW];simp
 have d1:W.cell? ⟨w.heap.size,1,A4⟩=A2 (.int .i64 q.fld):=by rw[← hW];simp
 have d2:W.cell? ⟨w.heap.size,2,A4⟩=A2 (.slice sa q.ws.length sc):=by rw[← hW];simp
 have d3:W.cell? ⟨w.heap.size,3,A4⟩=A2 (.int .i64 q.a):=by rw[← hW];simp
 have d4:W.cell? ⟨w.heap.size,4,A4⟩=A2 (.int .i64 q.b):=by rw[← hW];simp
 have d5:W.cell? ⟨w.heap.size,5,A4⟩=A2 (.slice ka q.ks.length kc):=by rw[← hW];simp
 have hEW:=hE.below hB
 have hWs:=hB.size
 have p3:=hEW.c3
 have hrun:∀ n,(NP 63 (.map (A2 MF)) (.int .i64 q.op) true).run A3 (W.drewN n)=.ok (.tuple #[.func (.func fn) #[.pointer (A2 ⟨P,0,A4⟩)] #[],.bool true]) (W.drewN n):=fun n=>by
  have h1:=(hEW.mf.below (Ba (Ab _ _) n)).look_ok Io GL (Sr.fzero _) (Sr.in64_key hi) (v:=.func (.func fn) #[.pointer (A2 ⟨P,0,A4⟩)] #[]) (by rw[hop];rfl)
  rw[hop]at h1
  exact h1
 have HFC:=J FC
 have HFP:Hid (∀ out,GY l (fun r=>DD (BQ (T.map (·.1)) r) q) out→Cp.puts Cp.ltI out=J0 (T.map (·.1)) l q):=J (fun out h=>h.puts)
 obtain⟨R,hR⟩:∃ R,J0 (T.map (·.1)) l q=R:=⟨_,rfl⟩
 rw[hR]at HFP ⊢
 clear FC hE hEW hq hop hi hR
 go_enter Tryz.func37,Tryz.ntmps37
 go_wp2
 clear hW
 go_quiet (fail)
 have hbq:=Ba (Ab W.heap.size W) nq
 generalize W.drewN nq=V at hbq ⊢
 replace d0:=A0 hbq d0
 replace d1:=A0 hbq d1
 replace d2:=A0 hbq d2
 replace d3:=A0 hbq d3
 replace d4:=A0 hbq d4
 replace d5:=A0 hbq d5
 have hBV:=A8 hB hbq
 have hVs:=hBV.size
 clear hrun p3 hbq
 go_wp2_with (first
  |(go_at_call 88;((with_reducible refine (CompactI_c HO3.out (by have:=HMl.out;omega)).mono ?_);rintro e w4 ⟨va,vc,rfl,hown4,hv4,hg4⟩;have HO4:=J hown4;have HB4:=J (HB3.out.grown hg4 HB3.out.size (fun j hj=>(HO3.out.lt j hj).1));clear hown4 hg4))
  |(go_at_call 87;((with_reducible refine (SortI_c HO2.out (by omega)).mono ?_);rintro e w3 ⟨rfl,hown3,hg3⟩;rw[HMD.out,← HMl.out]at hown3;have HO3:=J hown3;have HB3:=J (HB2.out.grown hg3 HB2.out.size (fun j hj=>(HO2.out.lt j hj).1));clear hown3 hg3))
  |(go_at_call 53;((with_reducible refine (cloneI_c L fa fc _ HIA.out hln).mono ?_);rintro e w2 ⟨v2,rfl,hown2,hb2⟩;have HO2:=J (Ix.row_lower hown2 HB1.out.size);have HB2:=J (A8 HB1.out hb2);clear hown2 hb2))
  |(go_at_fn fn;refine (HFC.out _ hBV).mono ?_;rintro e w1 ⟨v1,L,rfl,ho1,hfd,hln,hb1⟩;obtain⟨fa,fc,rfl,hia,_⟩:=BW ho1 rfl;have HIA:=J hia;have HB1:=J hb1;have hcs:=Cp.compact_sortedI L;obtain⟨M,hMd⟩:∃ M,(L.mergeSort fun x y=>decide (x≤y))=M:=⟨_,rfl⟩;have hMl:M.length=L.length:=(by rw[← hMd,List.length_mergeSort]);rw[hMd,HFP.out L hfd]at hcs;have HCS:=J hcs;have HMD:=J hMd;have HMl:=J hMl;clear hcs hMd hMl hia hb1 ho1 hfd))
 go_ret
 refine⟨_,rfl,?_,A8 hBV HB4.out⟩
 rw[← HCS.out]
 exact Ix.row_lower HO4.out hVs
namespace Sr
open Rc hiding bys
open Qr
theorem wordF_enters:∀ args w,(E5 34 args).run A3 w=.ok (.enter 34 args) w:=G2 Tryz.func34 (by kernel_rfl) rfl
theorem yearF_enters:∀ args w,(E5 35 args).run A3 w=.ok (.enter 35 args) w:=G2 Tryz.func35 (by kernel_rfl) rfl
theorem kidsF_enters:∀ args w,(E5 36 args).run A3 w=.ok (.enter 36 args) w:=G2 Tryz.func36 (by kernel_rfl) rfl
end Sr
theorem sr_eval_c (P MI MF nI:Nat) (T:List Cx) (xa:Option Ao) (xc:Nat) (l:List BF) (la:Option Ao) (lc:Nat) (B:Nat) (hX:Sr.Gx T) (hR:∀ r∈l,FH r) (hD:IS l) (hl:l.length≤1000000):∀ q,Sr.Rq q→(Qr.Wz 1000000 q→Sr.EvalC P MI MF nI T xa xc l la lc B q):=by
 refine Qr.Qy.ind ?_
 intro o f ws a b ks ih hq hM cs w hc hE
 obtain⟨sa,sc,ka,kc,e,hw,_,hK⟩:=hc.kids
 dsimp only[Qr.Qy.op,Qr.Qy.fld,Qr.Qy.a,Qr.Qy.b,Qr.Qy.ks,Qr.Qy.ws]at e hw hK
 have hS:∀ w',A6 w.heap.size w w'→ws≠[]→SLA w' sa sc ws:=fun w' hb hne=>by
  obtain⟨a9,c9,e,h9⟩:=(hw.below hb).sla
  injection e with e1 e2 e3
  subst e1 e3
  exact h9 hne
 have hne:1≤ws.length→ws≠[]:=fun h9 e=>by rw[e]at h9;exact absurd h9 (by decide)
 cases hq with
 | term h1 h2 h3 h5 h4 =>
  refine sr_eval_of P MI MF nI T xa xc l la lc B _ cs w hc hE 34 Sr.wordF_enters (Sr.findF_w P h1) (by unfold Ga;show -9223372036854775808≤o∧o≤9223372036854775807;omega) fun w' hb=>?_
  rw[e]
  rcases h1 with rfl | rfl | rfl
  ·obtain⟨y,rfl⟩:=E2.1 (h5 (by decide))
   exact sr_words_1 P MI MF nI T xa xc l la lc f y sa sc ka kc w' (hE.below hb) hX (hS w' hb (hne h3.1))
  ·obtain⟨y,rfl⟩:=E2.1 (h5 (by decide))
   exact sr_words_2 P MI MF nI T xa xc l la lc f y sa sc ka kc w' (hE.below hb) hX (hS w' hb (hne h3.1))
  ·exact sr_words_3 P MI MF nI T xa xc l la lc f ws sa sc ka kc w' (hE.below hb) hX (hS w' hb (hne h3.1)) (hne h3.1) h3.2 (fun s hs=>AK (hM.ws s hs) (by decide))
 | years h1 h2 =>
  refine sr_eval_of P MI MF nI T xa xc l la lc B _ cs w hc hE 35 Sr.yearF_enters (Sr.findF_y P) (by unfold Ga;show (-9223372036854775808:Int)≤4∧(4:Int)≤9223372036854775807;omega) fun w' hb=>?_
  rw[e]
  exact sr_evyears_c P MI MF nI T xa xc l la lc a b sa sc ka kc w' (hE.below hb) hR hl
 | kids h1 h2 h4 h3 =>
  refine sr_eval_of P MI MF nI T xa xc l la lc B _ cs w hc hE 36 Sr.kidsF_enters (Sr.findF_k P h1) (by unfold Ga;show -9223372036854775808≤o∧o≤9223372036854775807;omega) fun w' hb=>?_
  rw[e]
  have hkn:1≤ks.length∧ks.length≤8:=by omega
  have hIH:∀ k∈ks,Sr.EvalC P MI MF nI T xa xc l la lc B k:=fun k hk=>ih k hk (h3 k hk) (hM.ks k hk)
  rcases h1 with rfl | rfl | rfl
  ·exact sr_kids_5 P MI MF nI T xa xc l la lc B ks sa sc ka kc w' (hE.below hb) hR hD hl (hK.below hb) hkn hIH
  ·exact sr_kids_6 P MI MF nI T xa xc l la lc B ks sa sc ka kc w' (hE.below hb) hR hD hl (hK.below hb) hkn hIH
  ·exact sr_kids_7 P MI MF nI T xa xc l la lc B ks sa sc ka kc w' (hE.below hb) hR hD hl (hK.below hb) hkn hIH
namespace Sr
open Rc hiding bys
open Qr
theorem knowF_nil:knowF []=fun _=>A4:=by
 funext kl
 unfold knowF
 rw[if_neg]
 rintro⟨r,hr,_⟩
 cases hr
theorem knowF_step (l:List Rd) (x:Rd):J9 (knowF l) (.int .i64 x.id) (.bool true)=knowF (l++[x]):=by
 funext kl
 unfold J9 knowF
 by_cases h:kl=.int .i64 x.id
 ·rw[if_pos h,if_pos ⟨x,List.mem_append_right _ List.mem_cons_self,h⟩]
 ·rw[if_neg h]
  by_cases h2:∃ r∈l,kl=.int .i64 r.id
  ·obtain⟨r,hr,e⟩:=h2
   rw[if_pos ⟨r,hr,e⟩,if_pos ⟨r,List.mem_append_left _ hr,e⟩]
  ·rw[if_neg h2,if_neg]
   rintro⟨r,hr,e⟩
   rcases List.mem_append.1 hr with hr | hr
   ·exact h2 ⟨r,hr,e⟩
   ·rw[Bf]at hr
    rw[hr]at e
    exact h e
theorem made_at {w w':A9}{X:Nat} (h:w.alloc (.map #[] 0)=w') (hX:w.heap.size=X):Hr 3 w' X 0 (fun _=>A4):=by
 rw[← h,← hX]
 exact Vm.Map.made 3 w
theorem grown_set (w:A9) (p:Ao) (v:Ah):w.grownBy (w.setCell p v) (A2 p.block) :=
 ⟨rfl,rfl,rfl,by simp[CO],fun k _ hk=>Below.heap_setCell _ _ _ _ (fun e=>hk (by rw[e]))⟩
theorem cell_grown {w w':A9}{row:Option Nat}{b o:Nat}{v:Ah} (hg:w.grownBy w' row) (hne:A2 b≠row) (hc:w.cell? ⟨b,o,A4⟩=A2 v):w'.cell? ⟨b,o,A4⟩=A2 v :=
 (Dh (hg.block b (Mi hc) hne)).trans hc
end Sr
theorem search_Eval_c (T:List Cx) (xa:Option Ao) (xc:Nat) (l:List BF) (la:Option Ao) (lc B:Nat) (q:BK) (cs:List Ah) (w:A9) (px:Ix.PsA w xa xc T) (hX:Sr.Gx T) (rl:Rc.RdA w la lc l) (hR:∀ r∈l,FH r) (hD:IS l) (hl:l.length≤1000000) (hq:Qr.QC B w q cs) (hrq:Sr.Rq q) (hz:Qr.Wz 1000000 q) :
  Ac A3 15 #[.agg #[.slice xa T.length xc],.slice la l.length lc,.agg cs.toArray] w fun e w'=>∃ v,e=.returned v∧BO w' w.heap.size v (J0 (T.map (·.1)) l q)∧A6 w.heap.size w w':=by
 have hml:Au=9223372036854775807:=rfl
 have hmm:=@run_makeMap A3
 have hmf:∀ (fn:Fn) (first cap:Array Ah) (w:A9),(Cl fn first cap).run A3 w=.ok (.func fn first cap) w:=fun _ _ _ _=>rfl
 obtain⟨sa,sc,ka,kc,rfl,_,_,_⟩:=hq.kids
 obtain⟨V,hV⟩:∃ V,((((w.alloc (.cells #[.slice xa T.length xc] 24)).alloc (.cells #[.int .i64 q.op,.int .i64 q.fld,.slice sa q.ws.length sc,.int .i64 q.a,.int .i64 q.b,.slice ka q.ks.length kc] 29)).alloc (.map #[] 0)).alloc (.cells #[.slice xa T.length xc,.slice la l.length lc,.map (A2 (w.heap.size+2)),.map A4] 65)).alloc (.map #[] 0)=V:=⟨_,rfl⟩
 have hBV:A6 w.heap.size w V:=by rw[← hV];exact ((((Aa _ _).alloc (by simp) _).alloc (by simp;omega) _).alloc (by simp;omega) _).alloc (by simp;omega) _
 have hVs:V.heap.size=w.heap.size+5:=by rw[← hV];simp
 have hM0:Hr 3 V (w.heap.size+4) 0 (fun _=>A4):=Sr.made_at hV (by simp)
 have hI0:Hr 3 V (w.heap.size+2) 0 (fun _=>A4):=by
  have h:=Sr.made_at (w:=(w.alloc (.cells #[.slice xa T.length xc] 24)).alloc (.cells #[.int .i64 q.op,.int .i64 q.fld,.slice sa q.ws.length sc,.int .i64 q.a,.int .i64 q.b,.slice ka q.ks.length kc] 29)) rfl (X:=w.heap.size+2) (by simp)
  rw[← hV]
  exact h.below ((Aa _ _).alloc (by simp) _)
 have KP:Hid (V.heap[w.heap.size+3]?=A2 (.cells #[.slice xa T.length xc,.slice la l.length lc,.map (A2 (w.heap.size+2)),.map A4] 65 (0,0))):=J (by
  rw[← hV]
  have h:=heap_alloc_new (((w.alloc (.cells #[.slice xa T.length xc] 24)).alloc (.cells #[.int .i64 q.op,.int .i64 q.fld,.slice sa q.ws.length sc,.int .i64 q.a,.int .i64 q.b,.slice ka q.ks.length kc] 29)).alloc (.map #[] 0)) (.cells #[.slice xa T.length xc,.slice la l.length lc,.map (A2 (w.heap.size+2)),.map A4] 65)
  rw[show (((w.alloc (.cells #[.slice xa T.length xc] 24)).alloc (.cells #[.int .i64 q.op,.int .i64 q.fld,.slice sa q.ws.length sc,.int .i64 q.a,.int .i64 q.b,.slice ka q.ks.length kc] 29)).alloc (.map #[] 0)).heap.size=w.heap.size+3 by simp]at h
  exact ((Aa _ _).block _ (by simp)).trans h)
 have d0:V.cell? ⟨w.heap.size+1,0,A4⟩=A2 (.int .i64 q.op):=by rw[← hV];exact A0 (((Aa _ _).alloc (by simp) _).alloc (by simp) _) (by simp)
 have d1:V.cell? ⟨w.heap.size+1,1,A4⟩=A2 (.int .i64 q.fld):=by rw[← hV];exact A0 (((Aa _ _).alloc (by simp) _).alloc (by simp) _) (by simp)
 have d2:V.cell? ⟨w.heap.size+1,2,A4⟩=A2 (.slice sa q.ws.length sc):=by rw[← hV];exact A0 (((Aa _ _).alloc (by simp) _).alloc (by simp) _) (by simp)
 have d3:V.cell? ⟨w.heap.size+1,3,A4⟩=A2 (.int .i64 q.a):=by rw[← hV];exact A0 (((Aa _ _).alloc (by simp) _).alloc (by simp) _) (by simp)
 have d4:V.cell? ⟨w.heap.size+1,4,A4⟩=A2 (.int .i64 q.b):=by rw[← hV];exact A0 (((Aa _ _).alloc (by simp) _).alloc (by simp) _) (by simp)
 have d5:V.cell? ⟨w.heap.size+1,5,A4⟩=A2 (.slice ka q.ks.length kc):=by rw[← hV];exact A0 (((Aa _ _).alloc (by simp) _).alloc (by simp) _) (by simp)
 have b0:V.cell? ⟨w.heap.size,0,A4⟩=A2 (.slice xa T.length xc):=by rw[← hV];exact A0 ((((Aa _ _).alloc (by simp) _).alloc (by simp) _).alloc (by simp) _) (by simp)
 have HPL:Hid (w.heap.size+3<V.heap.size):=J (by omega)
 have HPX:=J px
 have HRL:=J rl
 have HQ:=J hq
 have HI0:=J hI0
 have HRG:=J hR
 have HBV:=J hBV
 have hcap:=rl.cap
 have hmax:=rl.max
 have HEV:=J (fun nI=>sr_eval_c (w.heap.size+3) (w.heap.size+2) (w.heap.size+4) nI T xa xc l la lc B hX hR hD hl q hrq hz)
 clear px hX rl hR hD hq hrq hz hI0
 go_enter Tryz.func15,Tryz.ntmps15
 go_wp2_with (first
  |(refine Hg hM6 (by decide) Io (Sr.in64_key (x:=7) (by unfold Ga;omega)) trivial rfl _ _ _ rfl GL rfl rfl rfl ?_;intro w7 hM7 hg7;have hgA:=((((((hg1.trans hg2).trans hg3).trans hg4).trans hg5).trans hg6).trans hg7);have K7:=Tx.blk ((hgA.block (w.heap.size+3) HPL.out (by intro h9;injection h9 with h9;omega)).trans KP.out);obtain⟨k7c,k7f,k7l⟩:=K7;have HGA:=J hgA)
  |(refine Hg hM5 (by decide) Io (Sr.in64_key (x:=6) (by unfold Ga;omega)) trivial rfl _ _ _ rfl GL rfl rfl rfl ?_;intro w6 hM6 hg6)
  |(refine Hg hM4 (by decide) Io (Sr.in64_key (x:=5) (by unfold Ga;omega)) trivial rfl _ _ _ rfl GL rfl rfl rfl ?_;intro w5 hM5 hg5)
  |(refine Hg hM3 (by decide) Io (Sr.in64_key (x:=4) (by unfold Ga;omega)) trivial rfl _ _ _ rfl GL rfl rfl rfl ?_;intro w4 hM4 hg4)
  |(refine Hg hM2 (by decide) Io (Sr.in64_key (x:=3) (by unfold Ga;omega)) trivial rfl _ _ _ rfl GL rfl rfl rfl ?_;intro w3 hM3 hg3)
  |(refine Hg hM1 (by decide) Io (Sr.in64_key (x:=2) (by unfold Ga;omega)) trivial rfl _ _ _ rfl GL rfl rfl rfl ?_;intro w2 hM2 hg2)
  |(refine Hg hM0 (by decide) Io (Sr.in64_key (x:=1) (by unfold Ga;omega)) trivial rfl _ _ _ rfl GL rfl rfl rfl ?_;intro w1 hM1 hg1))
 obtain⟨V9,hV9⟩:∃ V9,(w7.setCell ⟨w.heap.size+3,3,A4⟩ (.map (A2 (w.heap.size+4))))=V9:=⟨_,rfl⟩
 have hA7:V.heap.size≤w7.heap.size:=HGA.out.size
 have hVN:w.heap.size+5≤w7.heap.size:=by omega
 have hs9:V9.heap.size=w7.heap.size:=by rw[← hV9];simp[CO]
 have h7:A6 w.heap.size w w7:=HBV.out.grown HGA.out HBV.out.size (fun j hj=>by injection hj with hj;omega)
 have h9:A6 w.heap.size w V9:=by rw[← hV9];exact h7.setCell (show w.heap.size≤w.heap.size+3 by omega) _
 have hg9:w7.grownBy V9 (A2 (w.heap.size+3)):=by rw[← hV9];exact Sr.grown_set w7 _ _
 have r0:V9.cell? ⟨w.heap.size+3,0,A4⟩=A2 (.slice xa T.length xc):=by rw[← hV9];exact (Ly w7 _ _ _ (by intro h;injection h with _ h;omega)).trans (k7c 0)
 have r1:V9.cell? ⟨w.heap.size+3,1,A4⟩=A2 (.slice la l.length lc):=by rw[← hV9];exact (Ly w7 _ _ _ (by intro h;injection h with _ h;omega)).trans (k7c 1)
 have r2:V9.cell? ⟨w.heap.size+3,2,A4⟩=A2 (.map (A2 (w.heap.size+2))):=by rw[← hV9];exact (Ly w7 _ _ _ (by intro h;injection h with _ h;omega)).trans (k7c 2)
 have r3:V9.cell? ⟨w.heap.size+3,3,A4⟩=A2 (.map (A2 (w.heap.size+4))):=by rw[← hV9];exact World.cell?_setCell_same w7 _ _ (k7c 3)
 have hI9:Hr 3 V9 (w.heap.size+2) 0 (fun _=>A4):=(HI0.out.kept HGA.out (by intro h;injection h with h;omega)).kept hg9 (by intro h;injection h with h;omega)
 have hF9:Hr 3 V9 (w.heap.size+4) 7 (Sr.findF (w.heap.size+3)):=(show Hr 3 w7 (w.heap.size+4) 7 (Sr.findF (w.heap.size+3)) from hM7).kept hg9 (by intro h;injection h with h;omega)
 have hgV:V.grownBy w7 (A2 (w.heap.size+4)):=HGA.out
 have e0:=Sr.cell_grown hg9 (by intro h;injection h with h;omega) (Sr.cell_grown hgV (by intro h;injection h with h;omega) d0)
 have e1:=Sr.cell_grown hg9 (by intro h;injection h with h;omega) (Sr.cell_grown hgV (by intro h;injection h with h;omega) d1)
 have e2:=Sr.cell_grown hg9 (by intro h;injection h with h;omega) (Sr.cell_grown hgV (by intro h;injection h with h;omega) d2)
 have e3:=Sr.cell_grown hg9 (by intro h;injection h with h;omega) (Sr.cell_grown hgV (by intro h;injection h with h;omega) d3)
 have e4:=Sr.cell_grown hg9 (by intro h;injection h with h;omega) (Sr.cell_grown hgV (by intro h;injection h with h;omega) d4)
 have e5:=Sr.cell_grown hg9 (by intro h;injection h with h;omega) (Sr.cell_grown hgV (by intro h;injection h with h;omega) d5)
 have HI9:=J hI9
 have HF9:=J hF9
 have H9:=J h9
 clear hI9 hF9 hgV hg9 h7 h9 k7c k7f k7l hM1 hM2 hM3 hM4 hM5 hM6 hM7 hM0 hg1 hg2 hg3 hg4 hg5 hg6 hg7 d0 d1 d2 d3 d4 d5 hV b0 hBV
 go_loopw [9,36] (fun _ i wr=>∃ (k n:Nat),k≤l.length∧n≤k∧i=.int .i64 k∧Hid (Hr 3 wr (w.heap.size+2) n (Sr.knowF (l.take k)))∧Hid (V9.grownBy wr (A2 (w.heap.size+2)))) (fun _ i _=>l.length - (Ad i).toNat)
 case atStart=>exact⟨0,0,Ae _,An _,rfl,J (by rw[Bt,Sr.knowF_nil,hV9];exact HI9.out),J (by rw[hV9];exact⟨rfl,rfl,rfl,An _,fun _ _ _=>rfl⟩)⟩
 case round =>
  obtain⟨k,n,hk,hnk,rfl,hmi,hgr⟩:=hrel
  have hrs:=hgr.out.size
  have hbr:A6 w.heap.size w wr:=H9.out.grown hgr.out H9.out.size (fun j hj=>by injection hj with hj;omega)
  have z0:=Sr.cell_grown hgr.out (by intro h;injection h with h;omega) r0
  have z1:=Sr.cell_grown hgr.out (by intro h;injection h with h;omega) r1
  have z2:=Sr.cell_grown hgr.out (by intro h;injection h with h;omega) r2
  have z3:=Sr.cell_grown hgr.out (by intro h;injection h with h;omega) r3
  by_cases hlt:k<l.length
  ·obtain⟨x,hx⟩:∃ x,l[k]?=A2 x:=⟨_,A7 hlt⟩
   obtain⟨b,o,fa,fc,rfl,hbl,x0,x1,x2,x3,x4,hfx⟩:=(HRL.out.below hbr).get hx
   have htk:l.take (k+1)=l.take k++[x]:=by rw[C8,hx];rfl
   have hst:=Sr.knowF_step (l.take k) x
   rw[← htk]at hst
   have hid:=(HRG.out x (Ag hx)).ids
   have hkx:=Sr.in64_key (x:=x.id) (by unfold Ga;omega)
   obtain⟨U,hU⟩:∃ U,wr.alloc (.cells #[.int .i64 x.id,.int .i64 x.ver,.int .i64 x.kind,.string x.lang,.slice fa x.fields.length fc] 51)=U:=⟨_,rfl⟩
   have hbU:A6 wr.heap.size wr U:=by rw[← hU];exact Aa _ _
   have y0:U.cell? ⟨wr.heap.size,0,A4⟩=A2 (.int .i64 x.id):=by rw[← hU];simp
   have u2:=A0 hbU z2
   have HMU:=J (hmi.out.below hbU)
   have HGU:Hid (V9.grownBy U (A2 (w.heap.size+2))):=J (hgr.out.trans (Sr.grown_below hbU _))
   have HST:=J hst
   have HKX:=J hkx
   clear htk hst hkx hx hfx hmi hgr
   go_wp2
   go_still_tail 6,(by kernel_rfl)
   have hbq:A6 U.heap.size U U.drew:=(Ab _ _).drew
   change wpList _ _ _ _ _ U.drew
   generalize U.drew=U6 at hbq ⊢
   go_wp2_with (at_mapUpdate;go_must (refine Vm.put_step (HMU.out.below hbq) (by omega) Io HKX.out trivial rfl _ _ _ rfl Tryz.underlying62 rfl rfl rfl ?_);intro w3 hM3 hg3)
   go_roundw
   case rel=>exact⟨k+1,n+1,hlt,by omega,by go_num,J (by rw[← HST.out];exact hM3),J ((HGU.out.trans (Sr.grown_below hbq _)).trans hg3)⟩
   case measure=>simp[Ad];omega
  ·obtain rfl:k=l.length:=by omega
   have hmi2:=hmi.out
   rw[Ap]at hmi2
   have hev:Sr.Ev wr (w.heap.size+3) (w.heap.size+2) (w.heap.size+4) n T xa xc l la lc:=⟨z0,z1,z2,z3,HPX.out.below hbr,HRL.out.below hbr,hmi2,HF9.out.kept hgr.out (by intro h;injection h with h;omega)⟩
   have EC:=HEV.out n _ wr (HQ.out.later hbr) hev
   have t0:=Sr.cell_grown hgr.out (by intro h;injection h with h;omega) e0
   have t1:=Sr.cell_grown hgr.out (by intro h;injection h with h;omega) e1
   have t2:=Sr.cell_grown hgr.out (by intro h;injection h with h;omega) e2
   have t3:=Sr.cell_grown hgr.out (by intro h;injection h with h;omega) e3
   have t4:=Sr.cell_grown hgr.out (by intro h;injection h with h;omega) e4
   have t5:=Sr.cell_grown hgr.out (by intro h;injection h with h;omega) e5
   have HEC:=J EC
   clear EC hev hmi2 hmi hgr
   go_wp2_with (go_at_call 37;((with_reducible refine HEC.out.mono ?_);rintro e w1 ⟨v1,rfl,ho1,hb1⟩))
   go_ret
   exact⟨_,rfl,G6 ho1 (by omega),A8 hbr hb1⟩
end Go.Proofs.YtlakomilichhnaaGreatDoor
